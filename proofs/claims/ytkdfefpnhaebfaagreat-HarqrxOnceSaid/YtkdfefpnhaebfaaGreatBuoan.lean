/- Bundle. Conditions: none. -/
import Derived.Test.YtkdfefpnhaebfaaGreatBuoam
import Derived.Test.YtkdfefpnhaebfaaGreatBuoac
set_option linter.unusedVariables false
set_option linter.unusedSimpArgs false
namespace Go.Proofs.YtkdfefpnhaebfaaGreat.Tu
open Go.RowKit
set_option maxRecDepth 100000
set_option maxHeartbeats 1000000
theorem el22 : El Tryz.prog 28 5 (.int .u8 0) 1 := ⟨by kernel_rfl, by kernel_rfl, fun _ => by kernel_rfl, rfl⟩
theorem bitset_any (A B : Option Addr) (n c m d : Nat) (vs xs : List Int) (j v bb : Nat) (base : Nat) (w : World) (h : Own .u8 5 w base A n c vs) (hj : j < n) (hx : Rd .u8 w B m d xs) (hv : v < m) (hb : w.cell? ⟨bb, 0, none⟩ = some (.slice B m d)) :
 Calls Tryz.prog 159 #[.slice A n c, .int .i64 j, .int .i64 v, .pointer (some ⟨bb, 0, none⟩)] w fun e w' => e = .returned (.tuple #[]) ∧ Own .u8 5 w' base A n c (vs.set j (gi xs v)) ∧ w.grownBy w' (some (blk A)) := by
 have hix := fun W => Rdv.ix (Own.rd h) el22 hj .i64 W
 have hcell := Rd.cell (Own.rd h) hj
 have hfz := Ownv.frozen h (by have := Rdv.le (Own.rd h); omega) j
 have hix2 := fun W => Rdv.ix hx el22 hv .i64 W
 have hcell2 := Rd.cell hx hv
 have HSET := Lib.hid (Own.set_ h hj (gi xs v))
 clear h hx
 go_enter Tryz.func159, Tryz.ntmps159
 go_wp2
 go_returns
 exact ⟨rfl, HSET.out.1, HSET.out.2⟩
def MixSt (w wr : World) (k f1 f2 b bb : Nat) (A B : Option Addr) (d : Nat) (xs : List Int) (j : Nat) : Prop :=
 ∃ vs, Own .u8 5 wr w.heap.size A k k vs ∧ (∀ q, q < j → gi vs q = gi xs ((f1 * q + f2 * q % k * q) % k)) ∧ Obj3 wr w.heap.size b k f1 f2 ∧ Below w.heap.size w wr
def MixInv (w : World) (k f1 f2 b bb : Nat) (A B : Option Addr) (d : Nat) (xs : List Int) (i : Value) (wr : World) : Prop := ∃ j : Nat, j ≤ k ∧ i = .int .i64 j ∧ MixSt w wr k f1 f2 b bb A B d xs j
def mixR (xs : List Int) : List Int := if validK (xs.length : Int) = true then (List.range xs.length).map (fun i => gi xs (piN xs.length i)) else []
theorem madeb_any (n : Nat) (B : Option Addr) (d bb : Nat) (xs : List Int) (w : World) (hx : Rd .u8 w B n d xs) (hb : w.cell? ⟨bb, 0, none⟩ = some (.slice B n d)) (hbb : bb < w.heap.size) :
 Calls Tryz.prog 158 #[.int .i64 n, .func (.func 159) #[] #[.pointer (some ⟨bb, 0, none⟩)]] w fun e w' => ∃ A l, e = .returned (.tuple #[.slice A l l, .int .i64 (permE n)]) ∧ Own .u8 5 w' w.heap.size A l l (mixR xs) ∧ Below w.heap.size w w' := by
 have hxl := hx.len
 by_cases hv : validK (n : Int) = true
 · obtain ⟨kb0, kb1⟩ := valid_bd hv
   have hP := prm hv
   have e1 : permV (n : Int) = .agg #[.int .i64 n, .int .i64 (f1N n : Int), .int .i64 (f2N n : Int)] := by unfold permV; rw [if_pos hv, Int.toNat_natCast]
   have e2 : permE (n : Int) = 0 := by unfold permE; rw [if_pos hv]
   have e3 : mixR xs = (List.range n).map (fun i => gi xs (piN n i)) := by unfold mixR; rw [hxl, if_pos hv]
   rw [e2, e3]
   have ho := fun W => Lib.hid (of_any (n : Int) W)
   rw [e1, e2] at ho
   have hf1 := hP.b1
   have hf2 := hP.b2
   have HORD : Hid (∀ vs : List Int, vs.length = n → (∀ q, q < n → gi vs q = gi xs ((f1N n * q + f2N n * q % n * q) % n)) → vs = (List.range n).map (fun i => gi xs (piN n i))) := Lib.hid (by
    intro vs hl hq
    refine ext_gi (by rw [hl]; simp) fun q hq' => ?_
    rw [hq q (by omega), gi_eq ((List.range n).map fun i => gi xs (piN n i)) q (by simp; omega), List.getElem_map, List.getElem_range]
    rfl)
   clear e1 e2 e3 hv hP hxl
   generalize f1N n = f1 at *
   generalize f2N n = f2 at *
   go_enter Tryz.func158, Tryz.ntmps158
   go_wp2_with fail
   refine (ho _).out.mono ?_
   rintro e w1 ⟨rfl, hB1⟩
   have hO1 := Obj3.new w1 n f1 f2
   go_wp2_with (at_make; refine list_of rfl fun K hK => wp_mk (n := n) _ _ 28 rfl el22 rfl rfl (by omega) (by unfold maxLen; omega) ?_; intro Am wm hOm hBm hA; refine hK _ _ ?_; clear hK K)
   have hsz := hB1.size
   have hO2 : Obj3 wm w.heap.size w1.heap.size n f1 f2 := (hO1.mono hsz).below hBm
   have hblk : blk Am ≠ w1.heap.size := by
    have := (Ownv.blk_ge hOm (by omega)).1
    simp at this
    omega
   have hst : MixSt w wm n f1 f2 w1.heap.size bb Am B d xs 0 := ⟨List.replicate n 0, Own.of_eq (Ownv.mono hOm (by simp; omega)) rfl (by simp), by intro q hq; omega, hO2, (hB1.alloc hsz _).trans (hBm.mono (by simp; omega))⟩
   have HBLK := Lib.hid hblk
   clear hO1 hO2 hOm hBm hblk hsz hB1
   generalize w1.heap.size = b at *
   go_loopw [21] (fun i wr => MixInv w n f1 f2 b bb Am B d xs i wr) (fun i _ => n - (intOf i).toNat)
   case atStart => exact ⟨0, by omega, rfl, hst⟩
   case round =>
    obtain ⟨j, hj, rfl, vs, hO, hq, hobj, hB⟩ := hrel
    clear hst
    by_cases hlt : j < n
    · obtain ⟨c0, c1, c2, f0, f1', f2'⟩ := hobj.facts
      have ha := fun W => Lib.hid (at_any n f1 f2 j (by omega) (by omega) hf1 hf2 (by omega) W)
      have hpn : (f1 * j + f2 * j % n * j) % n < n := Nat.mod_lt _ (by omega)
      have HQ := Lib.hid hq
      obtain ⟨pv, hpv⟩ : ∃ pv, (f1 * j + f2 * j % n * j) % n = pv := ⟨_, rfl⟩
      rw [hpv] at ha hpn
      have HPV := Lib.hid hpv
      have HX := Lib.hid hx
      have HBC := Lib.hid hb
      clear hq f0 f1' f2' hpv hx hb
      unfold polyV at ha
      go_wp2_with (first
       | (go_at_call 209; refine (ha _).out.mono ?_; rintro e w4 ⟨rfl, hB4⟩)
       | (go_at_call 159; refine (bitset_any Am B n n n d vs xs j pv bb w.heap.size _ (Ownv.below hO hB4) hlt (Rdv.below HX.out (bnext hB hB4)) hpn (((bnext hB hB4).cell (p := ⟨bb, 0, none⟩) hbb).trans HBC.out)).mono ?_; rintro e w5 ⟨rfl, hO5, hg5⟩))
      have hl := (Own.rd hO).len
      have hB' := hB.trans (hB4.mono hB.size)
      refine ⟨⟨j + 1, by omega, by go_num, _, hO5, fun q hq => ?_, Ownv.grown (hobj.below hB4) hg5 (fun _ he => HBLK.out (Option.some.inj he).symm), grown_below hB' hg5 (Ownv.blk_ge hO (by omega)).1 hB'.size⟩, by simp [intOf]; omega⟩
      rw [gi_set _ _ _ _ (by omega)]
      by_cases e : j = q
      · subst e; rw [if_pos rfl, HPV.out]
      · rw [if_neg e]; exact HQ.out q (by omega)
    · obtain rfl : j = n := by omega
      have HQ := Lib.hid hq
      clear hq
      go_wp2
      go_ret2
      exact ⟨Am, j, rfl, by rw [← HORD.out vs (Own.rd hO).len HQ.out]; exact hO, hB⟩
 · have e1 : permV (n : Int) = .agg #[.int .i64 0, .int .i64 0, .int .i64 0] := by unfold permV; rw [if_neg hv]
   have e2 : permE (n : Int) = 2 := by unfold permE; rw [if_neg hv]
   have e3 : mixR xs = [] := by unfold mixR; rw [hxl, if_neg hv]
   rw [e2, e3]
   have ho := fun W => Lib.hid (of_any (n : Int) W)
   rw [e1, e2] at ho
   clear e1 e2 e3 hv
   go_enter Tryz.func158, Tryz.ntmps158
   go_wp2_with fail
   refine (ho _).out.mono ?_
   rintro e w1 ⟨rfl, hB1⟩
   go_wp2
   go_ret2
   exact ⟨none, 0, rfl, Own.nilv _ _ _ _, hB1.alloc hB1.size _⟩
theorem mix_any (B : Option Addr) (n d : Nat) (xs : List Int) (w : World) (hx : Rd .u8 w B n d xs) : Calls Tryz.prog 104 #[.slice B n d] w fun e w' => ∃ A l, e = .returned (.tuple #[.slice A l l, .int .i64 (permE n)]) ∧ Own .u8 5 w' w.heap.size A l l (mixR xs) ∧ Below w.heap.size w w' := by
 have hx1 := Rdv.alloc hx (.cells #[.slice B n d] 28)
 have hbd := hx.bd.1
 go_enter Tryz.func104, Tryz.ntmps104
 go_wp2_with fail
 refine (madeb_any n B d w.heap.size xs _ hx1 (by simp [go_sem]) (by simp)).mono ?_
 rintro e w1 ⟨A, l, rfl, hO, hB⟩
 go_wp2
 go_ret2
 exact ⟨A, l, rfl, Ownv.mono hO (by simp), ((Below.refl _ w).alloc (Nat.le_refl _) _).trans (hB.mono (by simp))⟩
theorem el62 : El Tryz.prog 56 28 (.slice none 0 0) 24 := ⟨by kernel_rfl, by kernel_rfl, fun _ => by kernel_rfl, rfl⟩
theorem Rdv.slhm {P : Program} {w : World} {A : Option Addr} {n c : Nat} {vs : List Value} (h : Rdv w A n c vs) {t e : TypeId} {z : Value} {bytes : Nat} (E : El P t e z bytes) (kh km : IntKind) {m : Nat} (hm : m ≤ c) (W : World) :
 (Instr.sliceAt t (.slice A n c) none (some (.int kh (m : Int))) (some (.int km (m : Int)))).run P W = .ok (.slice A m m) W := by
 have e1 : P.underlying t = some (.slice (P.elem t)) := by rw [E.u]; simp [Program.elem, E.u]
 have e2 : P.elem t = e := by simp [Program.elem, E.u]
 rw [run_sliceAt_slice W t _ _ _ _ e1, run_slice_hm W t A n c e1 kh km m m (by omega) (by omega) (by omega), e2, E.s]
 simp only [Result.andThen_ok, Int.toNat_natCast, sliced, Nat.zero_mul, Nat.sub_zero]
 congr 2
 split
 · rfl
 · cases A <;> simp [Addr.add]
theorem Rdv.capn {w : World} {A : Option Addr} {n c : Nat} {vs : List Value} (h : Rdv w A n c vs) : Rdv w A n n vs := by
 have hle := h.le
 exact ⟨h.len, Nat.le_refl _, Nat.le_trans hle h.cm, fun e => by have := h.nil e; omega, fun hn => h.spot (by omega), fun hn => h.lt (by omega), h.at_⟩
def tailV (x : Nat → Int) : Value := .agg #[.int .u8 (x 0), .int .u8 (x 1), .int .u8 (x 2), .int .u8 (x 3), .int .u8 (x 4), .int .u8 (x 5)]
theorem at_any51 (x : Nat → Int) (i p : Nat) (hip : (i = 0 ∧ p = 1) ∨ (i = 2 ∧ p = 0) ∨ (i = 1 ∧ p = 2)) (w : World) :
 Calls Tryz.prog 160 #[tailV x, .int .i64 (i : Int), .int .i64 (p : Int)] w fun e w' => e = .returned (.tuple #[.int .u8 (x i), .int .u8 (x (3 + p))]) ∧ Below w.heap.size w w' := by
 unfold tailV
 rcases hip with ⟨rfl, rfl⟩ | ⟨rfl, rfl⟩ | ⟨rfl, rfl⟩
 all_goals (
  go_enter Tryz.func160, Tryz.ntmps160
  go_wp2
  go_quiet (fail)
  go_wp2
  go_ret2
  exact ⟨rfl, ((Below.refl _ w).alloc (Nat.le_refl _) _).trans (by first | exact Below.refl _ _ | exact Qt.below ⟨_, rfl⟩ _)⟩)
def endL (x : Nat → Int) (j : Nat) : List Int := if j = 0 then [x 0, x 4] else if j = 1 then [x 3, x 2] else [x 1, x 5]
theorem ending_any31 (x : Nat → Int) (j : Nat) (hj : j < 3) (w : World) :
 Calls Tryz.prog 106 #[tailV x, .int .i64 (j : Int)] w fun e w' => ∃ A, e = .returned (.slice A 2 2) ∧ Own .u8 5 w' w.heap.size A 2 2 (endL x j) ∧ Below w.heap.size w w' := by
 have h0 := fun W => Lib.hid (at_any51 x 0 1 (by omega) W)
 have h1 := fun W => Lib.hid (at_any51 x 2 0 (by omega) W)
 have h2 := fun W => Lib.hid (at_any51 x 1 2 (by omega) W)
 unfold tailV at *
 rcases (by omega : j = 0 ∨ j = 1 ∨ j = 2) with rfl | rfl | rfl
 · go_enter Tryz.func106, Tryz.ntmps106
   go_wp2_with (go_at_call 160; refine (h0 _).out.mono ?_; rintro e w1 ⟨rfl, hB⟩)
   go_ret
   exact ⟨_, rfl, (Own.of_eq (Ownv.lit w1 #[.int .u8 (x 0), .int .u8 (x 4)] 5 rfl (by have := hB.size; simp at this; omega) (by show 2 ≤ maxLen; unfold maxLen; omega)) rfl rfl), (((Below.refl _ w).alloc (Nat.le_refl _) _).trans (hB.mono (by simp))).alloc (by have := hB.size; simp at this; omega) _⟩
 · go_enter Tryz.func106, Tryz.ntmps106
   go_wp2_with (go_at_call 160; refine (h1 _).out.mono ?_; rintro e w1 ⟨rfl, hB⟩)
   go_ret
   exact ⟨_, rfl, (Own.of_eq (Ownv.lit w1 #[.int .u8 (x 3), .int .u8 (x 2)] 5 rfl (by have := hB.size; simp at this; omega) (by show 2 ≤ maxLen; unfold maxLen; omega)) rfl rfl), (((Below.refl _ w).alloc (Nat.le_refl _) _).trans (hB.mono (by simp))).alloc (by have := hB.size; simp at this; omega) _⟩
 · go_enter Tryz.func106, Tryz.ntmps106
   go_wp2_with (go_at_call 160; refine (h2 _).out.mono ?_; rintro e w1 ⟨rfl, hB⟩)
   go_ret
   exact ⟨_, rfl, (Own.of_eq (Ownv.lit w1 #[.int .u8 (x 1), .int .u8 (x 5)] 5 rfl (by have := hB.size; simp at this; omega) (by show 2 ≤ maxLen; unfold maxLen; omega)) rfl rfl), (((Below.refl _ w).alloc (Nat.le_refl _) _).trans (hB.mono (by simp))).alloc (by have := hB.size; simp at this; omega) _⟩
def stN (n m j : Nat) : Nat := if j = 0 then 0 else if j = 1 then n else n + m
def stX (xs ys : List Int) (j : Nat) : List Int := if j = 0 then [] else if j = 1 then xs else xs ++ ys
def StreamInv (w : World) (n m : Nat) (xs ys : List Int) (i o : Value) (wr : World) : Prop :=
 ∃ (j : Nat) (A : Option Addr) (c : Nat), j ≤ 2 ∧ i = .int .i64 j ∧ o = .slice A (stN n m j) c ∧ Own .u8 5 wr w.heap.size A (stN n m j) c (stX xs ys j) ∧ Below w.heap.size w wr
theorem stream2_any (O A B : Option Addr) (n c m d : Nat) (xs ys : List Int) (w : World) (hp : Rdv w O 2 2 [.slice A n c, .slice B m d]) (hx : Rd .u8 w A n c xs) (hy : Rd .u8 w B m d ys) (hn : n ≤ 100000) (hm : m ≤ 100000) :
 Calls Tryz.prog 105 #[.slice O 2 2] w fun e w' => ∃ A' c', e = .returned (.slice A' (n + m) c') ∧ Own .u8 5 w' w.heap.size A' (n + m) c' (xs ++ ys) ∧ Below w.heap.size w w' := by
 have sx := fun W => Rdv.slhm hx el22 .i64 .i64 (Rdv.le hx) W
 have sy := fun W => Rdv.slhm hy el22 .i64 .i64 (Rdv.le hy) W
 go_enter Tryz.func105, Tryz.ntmps105
 go_wp2
 go_loopw [7, 2] (fun i o wr => StreamInv w n m xs ys i o wr) (fun i _ _ => 2 - (intOf i).toNat)
 case atStart => exact ⟨0, none, 0, by omega, rfl, rfl, Own.nilv _ _ _ _, Below.refl _ _⟩
 case round =>
  obtain ⟨j, A1, c1, hj, rfl, rfl, hO, hB⟩ := hrel
  have hp1 := Rdv.below hp hB
  have hsz := hB.size
  rcases (by omega : j = 0 ∨ j = 1 ∨ j = 2) with rfl | rfl | rfl
  · have hix := fun W => Rdv.ixI hp1 el62 (j := 0) (by omega) .i64 0 rfl W
    have hcell := hp1.at_ 0 _ rfl
    have hxx := Rdv.capn (Rdv.below hx hB)
    have e0 : stN n m 0 = 0 := rfl
    have e1 : stX xs ys 0 = [] := rfl
    rw [e0, e1] at hO
    rw [e0]
    clear e0 e1
    go_wp2_with (at_builtin; refine list_of rfl fun K hK => wp_app _ _ 28 rfl el22 rfl rfl hO hxx (oneCell_ints .u8 xs) (by omega) (by unfold maxLen; omega) hsz ?_; intro A' c' w' hO' hg; refine hK _ _ ?_; clear hK K)
    go_roundw
    case rel => exact ⟨1, A', c', by omega, rfl, by simp [stN], by rw [Nat.zero_add] at hO'; exact hO', hB.grown hg hsz (fun k hk => Ownv.ob' hO hk)⟩
    case measure => simp [intOf]
  · have hix := fun W => Rdv.ixI hp1 el62 (j := 1) (by omega) .i64 1 rfl W
    have hcell := hp1.at_ 1 _ rfl
    have hyy := Rdv.capn (Rdv.below hy hB)
    have e0 : stN n m 1 = n := rfl
    have e1 : stX xs ys 1 = xs := rfl
    rw [e0, e1] at hO
    rw [e0]
    clear e0 e1
    go_wp2_with (at_builtin; refine list_of rfl fun K hK => wp_app _ _ 28 rfl el22 rfl rfl hO hyy (oneCell_ints .u8 ys) (by omega) (by unfold maxLen; omega) hsz ?_; intro A' c' w' hO' hg; refine hK _ _ ?_; clear hK K)
    go_roundw
    case rel => exact ⟨2, A', c', by omega, rfl, by simp [stN], Own.of_eq hO' rfl (by simp [stX]), hB.grown hg hsz (fun k hk => Ownv.ob' hO hk)⟩
    case measure => simp [intOf]
  · go_wp2
    go_ret
    exact ⟨A1, c1, rfl, hO, hB⟩
def putC (w : World) (b : Nat) : Nat → List Value → World
 | _, [] => w
 | j, v :: l => putC (w.setCell ⟨b, j, none⟩ v) b (j + 1) l
theorem Ownv.putC_ {e : TypeId} {base b n c : Nat} : ∀ (l : List Value) {w : World} {vs : List Value} (j : Nat), Ownv e w base (some ⟨b, 0, none⟩) n c vs → j + l.length ≤ n → Ownv e (putC w b j l) base (some ⟨b, 0, none⟩) n c (vs.take j ++ l ++ vs.drop (j + l.length)) ∧ w.grownBy (putC w b j l) (some b)
 | [], w, vs, j, h, hj => ⟨by simpa [putC] using h, World.grownBy.refl _ _⟩
 | v :: l, w, vs, j, h, hj => by
   have hl := h.rd.len
   simp only [List.length_cons] at hj
   have h1 := Ownv.set_ h (j := j) (by omega) v
   simp only [adr_some, Nat.zero_add] at h1
   have h2 := Ownv.putC_ l (j + 1) h1.1 (by omega)
   refine ⟨?_, h1.2.trans h2.2⟩
   have e1 : (vs.set j v).take (j + 1) ++ l ++ (vs.set j v).drop (j + 1 + l.length) = vs.take j ++ (v :: l) ++ vs.drop (j + (v :: l).length) := by
    rw [List.take_add_one, List.take_set_of_le (Nat.le_refl j), List.getElem?_set_self (by omega), List.drop_set_of_lt (by omega)]
    simp only [Option.toList_some, List.append_assoc, List.cons_append, List.nil_append, List.length_cons]
    rw [show j + 1 + l.length = j + (l.length + 1) by omega]
   rw [← e1]
   exact h2.1
theorem Ownv.putAll {e : TypeId} {base b n c : Nat} (l : List Value) {w : World} {vs : List Value} (h : Ownv e w base (some ⟨b, 0, none⟩) n c vs) (hl : l.length = n) : Ownv e (putC w b 0 l) base (some ⟨b, 0, none⟩) n c l ∧ w.grownBy (putC w b 0 l) (some b) := by
 have := Ownv.putC_ l 0 h (by omega)
 have hv := h.rd.len
 rw [List.take_zero, List.nil_append, Nat.zero_add, List.drop_of_length_le (by omega), List.append_nil] at this
 exact this
def tlI (s : St3) (j : Nat) : Int := if j < 3 then ib (tu s j) else ib (tz s (j - 3))
def encL (s : St3) (A : Option Addr) (n c : Nat) : List Value := [.int .u8 (tlI s 0), .int .u8 (tlI s 1), .int .u8 (tlI s 2), .int .u8 (tlI s 3), .int .u8 (tlI s 4), .int .u8 (tlI s 5), .slice A n c]
def encV (s : St3) (A : Option Addr) (n c : Nat) : Value := .agg (encL s A n c).toArray
def enc0 : List Value := [.int .u8 0, .int .u8 0, .int .u8 0, .int .u8 0, .int .u8 0, .int .u8 0, .slice none 0 0]
theorem res28 (a : Array Value) (W : World) (base g : Nat) (l : List Value) (hl : l.length = 7) (E : Int) (h2 : a.getD 2 undef = .pointer (some ⟨g, 0, none⟩)) (h3 : a.getD 3 undef = .int .i64 E) (hO : Ownv 169 W base (some ⟨g, 0, none⟩) 7 7 l) :
 (results Tryz.f103 a).run Tryz.prog W = .ok (.tuple #[.agg l.toArray, .int .i64 E]) W := by
 rw [results_cell_tmp rfl, h2, h3]
 have h9 : (Tryz.prog.info? 169).map (·.size) = some 7 := by kernel_rfl
 have hl := run_loadVar_row (P := Tryz.prog) W g 169 169 _ (0, 0) _ (Ownv.row hO) Tryz.underlying169 rfl (by rw [h9]; simp [hl])
 simp [asAddr, hl, Sem.run_pure]
theorem encoded_bad (A : Option Addr) (n c : Nat) (xs : List Int) (w : World) (h : Rd .u8 w A n c xs) (hv : ValidB xs = false) :
 Calls Tryz.prog 103 #[.slice A n c] w fun e w' => e = .returned (.tuple #[.agg enc0.toArray, .int .i64 3]) ∧ Below w.heap.size w w' := by
 have hO : Ownv 169 (w.alloc (.cells enc0.toArray 169)) w.heap.size (some ⟨w.heap.size, 0, none⟩) 7 7 enc0 := Ownv.lit w enc0.toArray 169 rfl (Nat.le_refl _) (by show 7 ≤ maxLen; unfold maxLen; omega)
 have HO := Lib.hid hO
 have f0 := Ownv.frozen hO (by omega) 0
 have f1 := Ownv.frozen hO (by omega) 1
 have f2 := Ownv.frozen hO (by omega) 2
 have f3 := Ownv.frozen hO (by omega) 3
 have f4 := Ownv.frozen hO (by omega) 4
 have f5 := Ownv.frozen hO (by omega) 5
 have f6 := Ownv.frozen hO (by omega) 6
 clear hO
 have hb := tencode_bad A n c xs _ (Rdv.alloc h (.cells enc0.toArray 169)) hv
 unfold enc0 at hb f0 f1 f2 f3 f4 f5 f6
 simp only [adr_some, Nat.zero_add] at f0 f1 f2 f3 f4 f5 f6
 have HB := Lib.hid hb
 clear hb
 go_enter Tryz.func103, Tryz.ntmps103
 go_wp2_with (go_at_call 156; refine HB.out.mono ?_; rintro e w' ⟨rfl, rfl⟩)
 exact bodyPost_ret (res28 _ _ w.heap.size w.heap.size enc0 rfl 3 rfl rfl HO.out) rfl ⟨rfl, (Below.refl _ w).alloc (Nat.le_refl _) _⟩
theorem encoded_any (A : Option Addr) (n c : Nat) (bs : List Bool) (w : World) (h : Rd .u8 w A n c (bs.map ib)) (hn : n ≤ 100000) :
 Calls Tryz.prog 103 #[.slice A n c] w fun e w' => ∃ A' c', e = .returned (.tuple #[encV (fin bs) A' n c', .int .i64 0]) ∧ Own .u8 5 w' w.heap.size A' n c' ((parL s0 bs).map ib) ∧ Below w.heap.size w w' := by
 have hO : Ownv 169 (w.alloc (.cells enc0.toArray 169)) w.heap.size (some ⟨w.heap.size, 0, none⟩) 7 7 enc0 := Ownv.lit w enc0.toArray 169 rfl (Nat.le_refl _) (by show 7 ≤ maxLen; unfold maxLen; omega)
 have HO := Lib.hid hO
 clear hO
 have he := tencode_any A n c bs _ (Rdv.alloc h (.cells enc0.toArray 169)) hn
 unfold enc0 at he
 have HE := Lib.hid he
 clear he
 have ht := fun W => Lib.hid (tail_any (fin bs).1 (fin bs).2.1 (fin bs).2.2 W)
 unfold fin at *
 generalize hs : List.foldl stp s0 bs = s at *
 generalize hp : (parL s0 bs).map ib = ps at *
 have HP := Lib.hid hp
 have HS := Lib.hid hs
 clear hp hs h
 go_enter Tryz.func103, Tryz.ntmps103
 go_wp2_with fail
 refine HE.out.mono ?_
 rintro e w1 ⟨A1, c1, rfl, hR1, hB1⟩
 have HR1 := Lib.hid hR1
 have hsz : w.heap.size + 1 ≤ w1.heap.size := by have := hB1.size; simpa using this
 have HB1 := Lib.hid hB1
 clear hR1 hB1 HE
 have HO1 := Lib.hid (HO.out.below HB1.out)
 go_wp2_with (go_at_call 157; refine (ht _).out.mono ?_; rintro e w2 ⟨rfl, hB2⟩; have hO2 := ((HO1.out.below hB2).alloc (.cells #[.int .u8 (ib (tlU s.1 s.2.1 s.2.2 0)), .int .u8 (ib (tlU s.1 s.2.1 s.2.2 1)), .int .u8 (ib (tlU s.1 s.2.1 s.2.2 2))] 165)).alloc (.cells #[.int .u8 (ib (tlZ s.1 s.2.1 s.2.2 0)), .int .u8 (ib (tlZ s.1 s.2.1 s.2.2 1)), .int .u8 (ib (tlZ s.1 s.2.1 s.2.2 2))] 165); have hsz2 := hB2.size; have d0 := hO2.rd.at_ 0 _ rfl; have f0 := Ownv.frozen hO2 (by omega) 0; have d1 := hO2.rd.at_ 1 _ rfl; have f1 := Ownv.frozen hO2 (by omega) 1; have d2 := hO2.rd.at_ 2 _ rfl; have f2 := Ownv.frozen hO2 (by omega) 2; have d3 := hO2.rd.at_ 3 _ rfl; have f3 := Ownv.frozen hO2 (by omega) 3; have d4 := hO2.rd.at_ 4 _ rfl; have f4 := Ownv.frozen hO2 (by omega) 4; have d5 := hO2.rd.at_ 5 _ rfl; have f5 := Ownv.frozen hO2 (by omega) 5; have d6 := hO2.rd.at_ 6 _ rfl; have f6 := Ownv.frozen hO2 (by omega) 6; simp only [adr_some, Nat.zero_add] at d0 d1 d2 d3 d4 d5 d6 f0 f1 f2 f3 f4 f5 f6; have HO2 := Lib.hid hO2; have HB2 := Lib.hid hB2; clear hO2 hB2)
 have a2 := Ownv.putAll (encL s A1 n c1) HO2.out rfl
 have b1 : Below w.heap.size w w1 := ((Below.refl _ w).alloc (Nat.le_refl _) _).trans (HB1.out.mono (by simp))
 have b2 : Below w.heap.size w w2 := b1.trans (HB2.out.mono (by omega))
 have b3 := ((b2.alloc (by omega) (.cells #[.int .u8 (ib (tlU s.1 s.2.1 s.2.2 0)), .int .u8 (ib (tlU s.1 s.2.1 s.2.2 1)), .int .u8 (ib (tlU s.1 s.2.1 s.2.2 2))] 165)).alloc (by simp; omega) (.cells #[.int .u8 (ib (tlZ s.1 s.2.1 s.2.2 0)), .int .u8 (ib (tlZ s.1 s.2.1 s.2.2 1)), .int .u8 (ib (tlZ s.1 s.2.1 s.2.2 2))] 165)).grown a2.2 (by simp; omega) (fun k hk => by have := Option.some.inj hk; omega)
 have r1 : Own .u8 5 _ w.heap.size A1 n c1 ps := Ownv.grown (Ownv.alloc (Ownv.alloc (Ownv.below (Ownv.mono HR1.out (by simp)) HB2.out) _) _) a2.2 (fun hA he => by have h8 := (Ownv.blk_of HR1.out hA).1; have := Option.some.inj he; simp at h8; omega)
 refine bodyPost_ret (res28 _ _ w.heap.size w.heap.size (encL s A1 n c1) rfl 0 rfl rfl a2.1) rfl ⟨A1, c1, ?_, ?_, b3⟩
 · rw [← HS.out]; rfl
 · exact r1
end Go.Proofs.YtkdfefpnhaebfaaGreat.Tu
