/-
  Contract of (*trellis.encoder).takes: the register steps, and the parity grows by one. Condition: the encoder lies in a block of its own.
-/
import Derived.Test.YtmdjclfmhndjnaaJ
namespace Go.Proofs.Ytmdjclfmhndjnaa
open Go.RowKit
set_option linter.unusedVariables false
/-- An encoder in block o: three bits and its parity row. -/
structure EncSt (base : Nat) (w : World) (o : Nat) (a b c : Bool) (A : Option Addr) (n cp : Nat) (ps : List Bool) : Prop where
  obj : Ownv 119 w base (some ⟨o, 0, none⟩) 4 4 [.int .i64 (ib a), .int .i64 (ib b), .int .i64 (ib c), .slice A n cp]
  row : Own .u8 5 w base A n cp (ps.map ib)
  ne : A ≠ none → blk A ≠ o
  le : base ≤ w.heap.size
theorem EncSt.facts {base : Nat} {w : World} {o : Nat} {a b c : Bool} {A : Option Addr} {n cp : Nat} {ps : List Bool} (h : EncSt base w o a b c A n cp ps) :
    w.cell? ⟨o, 0, none⟩ = some (.int .i64 (ib a)) ∧ w.cell? ⟨o, 1, none⟩ = some (.int .i64 (ib b)) ∧ w.cell? ⟨o, 2, none⟩ = some (.int .i64 (ib c)) ∧ w.cell? ⟨o, 3, none⟩ = some (.slice A n cp) ∧
    w.frozen? ⟨o, 0, none⟩ = false ∧ w.frozen? ⟨o, 1, none⟩ = false ∧ w.frozen? ⟨o, 2, none⟩ = false ∧ w.frozen? ⟨o, 3, none⟩ = false :=
  ⟨h.obj.rd.at_ 0 _ rfl, h.obj.rd.at_ 1 _ rfl, h.obj.rd.at_ 2 _ rfl, h.obj.rd.at_ 3 _ rfl, Ownv.frozen h.obj (by omega) 0, Ownv.frozen h.obj (by omega) 1, Ownv.frozen h.obj (by omega) 2, Ownv.frozen h.obj (by omega) 3⟩
theorem EncSt.below {base : Nat} {w w' : World} {o : Nat} {a b c : Bool} {A : Option Addr} {n cp : Nat} {ps : List Bool} (h : EncSt base w o a b c A n cp ps) (hB : Below w.heap.size w w') : EncSt base w' o a b c A n cp ps :=
  ⟨h.obj.below hB, Ownv.below h.row hB, h.ne, Nat.le_trans h.le hB.size⟩
theorem EncSt.alloc {base : Nat} {w : World} {o : Nat} {a b c : Bool} {A : Option Addr} {n cp : Nat} {ps : List Bool} (h : EncSt base w o a b c A n cp ps) (x : Obj) : EncSt base (w.alloc x) o a b c A n cp ps :=
  ⟨h.obj.alloc x, Ownv.alloc h.row x, h.ne, by have := h.le; simp; omega⟩
theorem EncSt.put {base : Nat} {w : World} {o : Nat} {a b c : Bool} {A : Option Addr} {n cp : Nat} {ps : List Bool} (h : EncSt base w o a b c A n cp ps) (a' b' c' : Bool) :
    EncSt base (((w.setCell ⟨o, 0, none⟩ (.int .i64 (ib a'))).setCell ⟨o, 1, none⟩ (.int .i64 (ib b'))).setCell ⟨o, 2, none⟩ (.int .i64 (ib c'))) o a' b' c' A n cp ps ∧
      Below base w (((w.setCell ⟨o, 0, none⟩ (.int .i64 (ib a'))).setCell ⟨o, 1, none⟩ (.int .i64 (ib b'))).setCell ⟨o, 2, none⟩ (.int .i64 (ib c'))) := by
  have hb : base ≤ o := (Ownv.blk_ge h.obj (by omega)).1
  have s0 := Ownv.set_ h.obj (j := 0) (by omega) (.int .i64 (ib a'))
  have s1 := Ownv.set_ s0.1 (j := 1) (by omega) (.int .i64 (ib b'))
  have s2 := Ownv.set_ s1.1 (j := 2) (by omega) (.int .i64 (ib c'))
  have hn : A ≠ none → some (blk A) ≠ some o := fun hA he => h.ne hA (Option.some.inj he)
  have r0 := Ownv.grown h.row s0.2 hn
  have r1 := Ownv.grown r0 s1.2 hn
  have r2 := Ownv.grown r1 s2.2 hn
  have g : ∀ {W W' : World}, Below base w W → W.grownBy W' (some o) → Below base w W' := fun hB hg => hB.grown hg (Nat.le_trans h.le hB.size) (fun k hk => by injection hk with hk; omega)
  have g2 := g (g (g (Below.refl base w) s0.2) s1.2) s2.2
  exact ⟨⟨s2.1, r2, h.ne, Nat.le_trans h.le g2.size⟩, g2⟩
/-- Rows of different element types lie in different blocks. -/
theorem own_tag_ne {e e' : TypeId} {w : World} {base base' : Nat} {A B : Option Addr} {n c m d : Nat} {vs us : List Value} (h : Ownv e w base A n c vs) (h' : Ownv e' w base' B m d us) (he : e ≠ e') (hA : A ≠ none) (hB : B ≠ none) : blk A ≠ blk B := by
  obtain ⟨_, h2⟩ := h.cases
  obtain ⟨_, h2'⟩ := h'.cases
  rcases h2 with ⟨rfl, _⟩ | ⟨g, cur, rfl, _, hh, _⟩
  · exact absurd rfl hA
  · rcases h2' with ⟨rfl, _⟩ | ⟨g', cur', rfl, _, hh', _⟩
    · exact absurd rfl hB
    · intro hg
      have hg : g = g' := hg
      subst hg
      rw [hh] at hh'
      injection hh' with h3
      injection h3 with _ h4
      exact he h4
theorem Ownv.blk_of {e : TypeId} {w : World} {base : Nat} {A : Option Addr} {n c : Nat} {vs : List Value} (h : Ownv e w base A n c vs) (hA : A ≠ none) : base ≤ blk A ∧ blk A < w.heap.size := by
  obtain ⟨hl, h2⟩ := h.cases
  rcases h2 with ⟨rfl, rfl, rfl⟩ | ⟨g, cur, rfl, hb, hh, hnc, hcm, hs, ht⟩
  · exact absurd rfl hA
  · exact ⟨hb, (Array.getElem?_eq_some_iff.1 hh).1⟩
set_option maxRecDepth 100000 in
set_option maxHeartbeats 300000 in
theorem takes_any (base o : Nat) (a b c x : Bool) (A : Option Addr) (n cp : Nat) (ps : List Bool) (w : World) (h : EncSt base w o a b c A n cp ps) (hn : n ≤ 100000) :
    Calls Try.prog 66 #[.pointer (some ⟨o, 0, none⟩), .int .i64 (ib x)] w fun e w' => e = .returned (.int .i64 (ib (x ^^ b ^^ c ^^ a ^^ c))) ∧ (∃ A' cp', EncSt base w' o (x ^^ b ^^ c) a b A' (n + 1) cp' (ps ++ [x ^^ b ^^ c ^^ a ^^ c])) ∧ Below base w w' := by
  obtain ⟨c0, c1, c2, c3, -, -, -, -⟩ := h.facts
  have hs := fun W => Lib.hid (step_any a b c x W)
  generalize (x ^^ b ^^ c) = a' at *
  generalize (a' ^^ a ^^ c) = p at *
  unfold regV at hs
  go_enter Try.func66, Try.ntmps66
  go_wp2_with fail
  refine (hs _).out.mono ?_
  rintro e w1 ⟨rfl, hB1⟩
  have h1 := (h.below hB1).alloc (.cells #[.int .i64 (ib a'), .int .i64 (ib a), .int .i64 (ib b)] 117)
  obtain ⟨d0, d1, d2, d3, f0, f1, f2, f3⟩ := h1.facts
  have HP := Lib.hid (h1.put a' a b)
  have HLE := Lib.hid h.le
  have HNE : Hid (some (blk (some ⟨o, 0, none⟩)) = (Value.slice A n cp).ownBlock → False) := Lib.hid (fun he => by
    rcases A with _ | A
    · simp [Value.ownBlock] at he
    · have h3 := (Ownv.cases h.row).2
      rcases h3 with ⟨h4, _⟩ | ⟨g, cur, h4, _⟩
      · cases h4
      · cases h4
        refine h.ne (by simp) ?_
        simp [Value.ownBlock] at he
        exact he.symm)
  clear c0 c1 c2 c3 h1 h hs
  have hp0 : 0 ≤ ib p := by cases p <;> decide
  have hp1 : ib p ≤ 1 := by cases p <;> decide
  obtain ⟨ip, hip⟩ : ∃ ip, ib p = ip := ⟨_, rfl⟩
  rw [hip] at hp0 hp1 ⊢
  have HSZ : Hid (((((w1.alloc (.cells #[.int .i64 (ib a'), .int .i64 (ib a), .int .i64 (ib b)] 117)).setCell ⟨o, 0, none⟩ (.int .i64 (ib a'))).setCell ⟨o, 1, none⟩ (.int .i64 (ib a))).setCell ⟨o, 2, none⟩ (.int .i64 (ib b))).heap.size = w1.heap.size + 1) := Lib.hid (by simp)
  go_wp2_with (at_builtin; refine list_of rfl fun K hK => wp_app1 _ _ 26 rfl el26 rfl (.int .u8 ip) (by rw [HSZ.out]; rfl) rfl HP.out.1.row (by omega) (by omega) HP.out.1.le ?_; intro A' c' w' hO' hg; have hobj := Ownv.grown HP.out.1.obj hg (fun _ he => HNE.out he); have e3 : w'.cell? ⟨o, 3, none⟩ = some (.slice A n cp) := hobj.rd.at_ 3 _ rfl; have e3f : w'.frozen? ⟨o, 3, none⟩ = false := Ownv.frozen hobj (by omega) 3; refine hK _ _ ?_; clear hK K)
  go_ret
  have hb : base ≤ o := (Ownv.blk_ge hobj (by omega)).1
  have s3 := Ownv.set_ hobj (j := 3) (by omega) (.slice A' (n + 1) c')
  have hB2 : Below base w w1 := hB1.mono HLE.out
  have hB3 : Below base w w' := ((hB2.alloc (Nat.le_trans HLE.out hB1.size) _).trans HP.out.2).grown hg (by have := HP.out.1.le; exact this) (fun k hk => Ownv.ob' HP.out.1.row hk)
  refine ⟨ret_int hip.symm, ⟨A', c', s3.1, ?_, fun hA => own_tag_ne hO' hobj (by decide) hA (by simp), ?_⟩, ?_⟩
  · rw [List.map_append]
    exact Ownv.grown (Own.of_eq hO' rfl (by simp [hip])) s3.2 (fun hA he => own_tag_ne hO' hobj (by decide) hA (by simp) (Option.some.inj he))
  · exact Nat.le_trans (Nat.le_trans HLE.out hB3.size) s3.2.size
  · exact hB3.grown s3.2 (Nat.le_trans HLE.out hB3.size) (fun k hk => by injection hk with hk; rw [← hk]; exact hb)
end Go.Proofs.Ytmdjclfmhndjnaa
