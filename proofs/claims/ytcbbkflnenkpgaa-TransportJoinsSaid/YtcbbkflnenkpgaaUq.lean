/-
  Contracts of the size and the filler of a code block, and of the closure of transport.Split. Condition: slices that lie in memory.
-/
import Derived.Test.YtcbbkflnenkpgaaUk
import Derived.Test.YtcbbkflnenkpgaaUl
import Derived.Test.YtcbbkflnenkpgaaSm
namespace Go.Proofs.Ytcbbkflnenkpgaa
open Go.RowKit Go.Shelf
set_option linter.unusedVariables false
theorem SZ_40 (j : Nat) : 40 ≤ SZ j := SZ_lo j
theorem sz_40 (b i : Nat) : 40 ≤ sz b i := by
  unfold sz
  split
  · rename_i h
    by_cases hb : b ≤ 6144
    · have : shs b = 0 := by unfold shs; rw [if_pos hb]
      omega
    · have := sh_lt hb; omega
  · exact SZ_lo _
/-- filler bits of block i -/
def fl (b i : Nat) : Nat := if i = 0 then fi b else 0
theorem fl_lt {b i : Nat} (h1 : 1 ≤ b) : fl b i < sz b i := by
  have := (sz_ge (i := i) h1).1
  unfold fl
  omega
/-- usable elements of block i -/
def uS (b : Nat) (lim : Int) (i : Nat) : Nat := usC ((bufL (sz b i) (fl b i)).take (szB (sz b i) lim))
set_option maxRecDepth 100000 in
theorem tsize_any (b i : Nat) (w : World) : Calls Try.prog 53 #[.agg (ints8 (LY b)).toArray, .int .i64 i] w fun e w' => e = .returned (.int .i64 (sz b i : Int)) ∧ Below w.heap.size w w' := by
  rw [sz_if]
  simp only [LY, ints8, List.map_cons, List.map_nil]
  by_cases h : (i : Int) < (shs b : Int)
  · rw [if_pos h]
    go_enter Try.func53, Try.ntmps53
    go_wp2
    go_ret
    exact ⟨rfl, (Below.refl _ _).alloc (Nat.le_refl _) _⟩
  · rw [if_neg h]
    go_enter Try.func53, Try.ntmps53
    go_wp2
    go_ret
    exact ⟨rfl, (Below.refl _ _).alloc (Nat.le_refl _) _⟩
set_option maxRecDepth 100000 in
theorem tfil_any (b i : Nat) (w : World) : Calls Try.prog 54 #[.agg (ints8 (LY b)).toArray, .int .i64 i] w fun e w' => e = .returned (.int .i64 (fl b i : Int)) ∧ Below w.heap.size w w' := by
  unfold fl
  simp only [LY, ints8, List.map_cons, List.map_nil]
  by_cases h : i = 0
  · rw [if_pos h]
    have q : decide ((i : Int) > 0) = false := by simp; omega
    subst h
    go_enter Try.func54, Try.ntmps54
    go_wp2
    go_ret
    exact ⟨rfl, (Below.refl _ _).alloc (Nat.le_refl _) _⟩
  · rw [if_neg h]
    have q : 0 < i := by omega
    clear h
    go_enter Try.func54, Try.ntmps54
    go_wp2
    go_ret
    exact ⟨rfl, (Below.refl _ _).alloc (Nat.le_refl _) _⟩
set_option maxRecDepth 100000 in
theorem rfil_any (b i : Nat) (w : World) : Calls Try.prog 57 #[.agg (ints8 (LY b)).toArray, .int .i64 i] w fun e w' => e = .returned (.int .i64 (fl b i : Int)) ∧ Below w.heap.size w w' := by
  unfold fl
  simp only [LY, ints8, List.map_cons, List.map_nil]
  by_cases h : i = 0
  · rw [if_pos h]
    subst h
    go_enter Try.func57, Try.ntmps57
    go_wp2
    go_ret
    exact ⟨rfl, (Below.refl _ _).alloc (Nat.le_refl _) _⟩
  · rw [if_neg h]
    have q : ((i : Int) == 0) = false := beq_f (by omega)
    go_enter Try.func57, Try.ntmps57
    go_wp2
    go_ret
    exact ⟨rfl, (Below.refl _ _).alloc (Nat.le_refl _) _⟩
-- MORE
def SqPost (bad : Prop) (m VB : Nat) (A : Option Addr) (n c : Nat) (ys : List Int) (W : World) (e : Ending) (w' : World) : Prop :=
  ((bad ∧ e = .returned (.tuple #[.slice none 0 0, .int .i64 10])) ∨ (¬ bad ∧ ∃ A' c', e = .returned (.tuple #[.slice A' m c', .int .i64 0]) ∧ Own .i64 3 w' W.heap.size A' m c' (ys.take m))) ∧
  Blk w' VB 34 [.slice (cut A c m) (n - m) (c - m)] ∧ W.grownBy w' (some VB)
set_option maxRecDepth 100000 in
set_option maxHeartbeats 2000000 in
theorem cl50_any (b i LB VB CB m : Nat) (A : Option Addr) (n c : Nat) (ys : List Int) (lim : Int) (W : World) (h1 : 1 ≤ b) (h2 : b ≤ 79560) (hlim : 1 ≤ lim)
    (hL : Blk W LB 23 (ints8 (LY b))) (hV : Blk W VB 34 [.slice A n c]) (hC : W.cell? ⟨CB, 3, none⟩ = some (.int .i64 lim)) (hCV : CB ≠ VB) (hy : Rd .i64 W A n c ys) (hm : m ≤ n) (hn : n ≤ 200000) :
    Calls Try.prog 50 #[.int .i64 i, .int .i64 m, .pointer (some ⟨VB, 0, none⟩), .pointer (some ⟨LB, 0, none⟩), .pointer (some ⟨CB, 0, none⟩)] W (SqPost (uS b lim i = 0 ∧ 0 < m) m VB A n c ys W) := by
  have HU := Lib.hid (fun W => usable_ok (sz b i) (fl b i) lim W (sz_40 b i) (sz_ge (i := i) h1).2 (fl_lt h1) hlim)
  have hle := Rdv.le hy
  obtain ⟨U, hU⟩ : ∃ U, U = uS b lim i := ⟨_, rfl⟩
  rw [show usC ((bufL (sz b i) (fl b i)).take (szB (sz b i) lim)) = U from hU.symm] at HU
  rw [← hU]
  clear hU h1 h2 hlim
  have hLV : LB ≠ VB := by
    intro e
    have h3 : W.heap[LB]? = _ := hL
    have h4 : W.heap[VB]? = _ := hV
    rw [e, h4] at h3
    injection h3 with h3
    injection h3 with _ h9
    exact absurd h9 (by decide)
  have hclt : CB < W.heap.size := World.block_lt_of_cell? W _ hC
  have hvl := hV.lt
  have r0 := hV.cell (j := 0) rfl
  have s1 := fun W => Rdv.slh hy el34 .i64 (m := m) (by omega) W
  have s2 := fun W => Rdv.sll hy el34 .i64 hm W
  have hcl := Lib.hid (cloneI_any A m c (ys.take m) W (Rd.upto hy hm) (by omega))
  go_enter Try.func50, Try.ntmps50
  go_wp2_with (go_at_call 51; refine hcl.out.mono ?_; rintro e w3 ⟨A3, c3', rfl, hO3, hB3⟩; have hR3 := hV.below hB3; have r3 := hR3.cell (j := 0) rfl; have rf3 := hR3.frozen 0; have HL3 := Lib.hid ((hL.below hB3).other (fun e => hLV e.symm) 0 (.slice (cut A c m) (n - m) (c - m))); have HC3 := Lib.hid (cell_below hC hB3); have HB3 := Lib.hid hB3; have HR3 := Lib.hid (hR3.set 0 (.slice (cut A c m) (n - m) (c - m))); have HO3 := Lib.hid hO3; clear hO3 hB3 hcl)
  have HO4 := Lib.hid (Ownv.grown HO3.out (grownBy_set w3 VB 0 (.slice (cut A c m) (n - m) (c - m))) (fun hA he => by have h8 := (Ownv.blk_of HO3.out hA).1; have h9 := Option.some.inj he; omega))
  have HG4 := Lib.hid (grownBy_below HB3.out (grownBy_set w3 VB 0 (.slice (cut A c m) (n - m) (c - m))))
  have HC4 : Hid ((w3.setCell ⟨VB, 0, none⟩ (.slice (cut A c m) (n - m) (c - m))).cell? ⟨CB, 3, none⟩ = some (.int .i64 lim)) := Lib.hid (by rw [cell_set_ne _ hCV]; exact HC3.out)
  clear r0 s1 s2 hL hV hR3 r3 rf3 HB3 HO3 hC HC3 hy
  generalize w3.setCell ⟨VB, 0, none⟩ (.slice (cut A c m) (n - m) (c - m)) = W4 at *
  have HS4 : Hid (Blk W4 LB 23 (ints8 (LY b)) ∧ W4.cell? ⟨CB, 3, none⟩ = some (.int .i64 lim)) := Lib.hid ⟨HL3.out, HC4.out⟩
  clear HL3 HC4
  refine P_start (fun W => Blk W LB 23 (ints8 (LY b)) ∧ W.cell? ⟨CB, 3, none⟩ = some (.int .i64 lim)) 8 14 #[false, false, false, false, false, false, false, false, false, false, false, false, false, false] (by kernel_rfl) (by kernel_rfl) (by kernel_rfl) ?_
  refine P_takeT 0 20 (.agg (ints8 (LY b)).toArray) #[true, false, false, false, false, false, false, false, false, false, false, false, false, false] [2] rfl rfl (by kernel_rfl) (by kernel_rfl) (by kernel_rfl) (by kernel_rfl) (by kernel_rfl) (by kernel_rfl) (by kernel_rfl) (by decide) (fun _ _ _ h => h) (yieldsIf_load_mid rfl 23 (.tmp 3) rfl LB (0) rfl (ints8 (LY b)) _ (fun W hS => fun q v hv => hS.1.cell (by rw [Nat.zero_add]; exact hv)) Try.underlying23 rfl (by rw [info23]; rfl)) HS4.out ?_
  simp only [List.setIfInBounds_toArray, List.set_cons_zero, List.set_cons_succ]
  refine P_takeW 1 21 (.int .i64 (i : Int)) #[true, true, false, false, false, false, false, false, false, false, false, false, false, false] rfl rfl (by kernel_rfl) (by kernel_rfl) (by kernel_rfl) (by kernel_rfl) (by decide) (fun _ _ _ h => h) (Or.inl ⟨by rfl, fun W hS => by go_simp⟩) HS4.out ?_
  simp only [List.setIfInBounds_toArray, List.set_cons_zero, List.set_cons_succ]
  refine P_takeT 3 23 (.agg (ints8 (LY b)).toArray) #[true, true, false, true, false, false, false, false, false, false, false, false, false, false] [5] rfl rfl (by kernel_rfl) (by kernel_rfl) (by kernel_rfl) (by kernel_rfl) (by kernel_rfl) (by kernel_rfl) (by kernel_rfl) (by decide) (fun _ _ _ h => h) (yieldsIf_load_mid rfl 23 (.tmp 3) rfl LB (0) rfl (ints8 (LY b)) _ (fun W hS => fun q v hv => hS.1.cell (by rw [Nat.zero_add]; exact hv)) Try.underlying23 rfl (by rw [info23]; rfl)) HS4.out ?_
  simp only [List.setIfInBounds_toArray, List.set_cons_zero, List.set_cons_succ]
  refine P_takeW 4 24 (.int .i64 (i : Int)) #[true, true, false, true, true, false, false, false, false, false, false, false, false, false] rfl rfl (by kernel_rfl) (by kernel_rfl) (by kernel_rfl) (by kernel_rfl) (by decide) (fun _ _ _ h => h) (Or.inl ⟨by rfl, fun W hS => by go_simp⟩) HS4.out ?_
  simp only [List.setIfInBounds_toArray, List.set_cons_zero, List.set_cons_succ]
  refine P_takeW 6 26 (.pointer (some ⟨CB, 3, none⟩)) #[true, true, false, true, true, false, true, false, false, false, false, false, false, false] rfl rfl (by kernel_rfl) (by kernel_rfl) (by kernel_rfl) (by kernel_rfl) (by decide) (fun _ _ _ h => h) (Or.inl ⟨by rfl, fun W hS => by go_simp⟩) HS4.out ?_
  simp only [List.setIfInBounds_toArray, List.set_cons_zero, List.set_cons_succ]
  refine P_take 7 27 (.int .i64 lim) #[true, true, false, true, true, false, true, true, false, false, false, false, false, false] rfl rfl (by kernel_rfl) (by kernel_rfl) (by kernel_rfl) (by kernel_rfl) (by kernel_rfl) (by kernel_rfl) (by decide) (fun _ _ _ h => h) (Or.inl ⟨by rfl, fun W hS => by obtain ⟨hS1, hS2⟩ := hS; go_simp⟩) HS4.out ?_
  simp only [List.setIfInBounds_toArray, List.set_cons_zero, List.set_cons_succ]
  refine P_oneS 2 #[true, true, true, true, true, false, true, true, false, false, false, false, false, false] rfl (by kernel_rfl) (by kernel_rfl) rfl (fun K hK => ?_)
  go_simp
  refine (tsize_any b i _).mono ?_
  rintro e wa ⟨rfl, hBa⟩
  have HSa : Hid (Blk wa LB 23 (ints8 (LY b)) ∧ wa.cell? ⟨CB, 3, none⟩ = some (.int .i64 lim)) := Lib.hid ⟨HS4.out.1.drew.below hBa, cell_below (w := W4.drew) HS4.out.2 hBa⟩
  have HBa := Lib.hid (((Below.refl W4.heap.size W4).drew).trans hBa)
  clear hBa
  refine hK _ _ HSa.out ?_
  clear hK K
  refine P_oneS 5 #[true, true, true, true, true, true, true, true, false, false, false, false, false, false] rfl (by kernel_rfl) (by kernel_rfl) rfl (fun K hK => ?_)
  go_simp
  refine (tfil_any b i _).mono ?_
  rintro e wb ⟨rfl, hBb⟩
  have HSb : Hid (Blk wb LB 23 (ints8 (LY b)) ∧ wb.cell? ⟨CB, 3, none⟩ = some (.int .i64 lim)) := Lib.hid ⟨HSa.out.1.below hBb, cell_below HSa.out.2 hBb⟩
  have HBb := Lib.hid (HBa.out.trans (hBb.mono HBa.out.size))
  clear hBb
  refine hK _ _ HSb.out ?_
  clear hK K
  refine P_one 8 #[true, true, true, true, true, true, true, true, true, false, false, false, false, false] rfl (by kernel_rfl) (by kernel_rfl) rfl (by kernel_rfl) (fun K hK => ?_)
  go_simp
  refine (HU.out _).mono ?_
  rintro e wc ⟨rfl, hBc⟩
  have HBc := Lib.hid (HBb.out.trans (hBc.mono HBb.out.size))
  clear hBc
  refine hK _ _ ?_
  clear hK K
  refine P_one 9 #[true, true, true, true, true, true, true, true, true, true, false, false, false, false] rfl (by kernel_rfl) (by kernel_rfl) rfl (by kernel_rfl) (fun K hK => ?_)
  go_simp
  refine hK _ _ ?_
  clear hK K
  refine P_takeX 10 29 (.int .i64 (U : Int)) #[true, true, true, true, true, true, true, true, true, true, true, false, false, false] rfl rfl (by kernel_rfl) (by kernel_rfl) (by kernel_rfl) (by kernel_rfl) (by decide) (fun _ _ _ h => h) (Or.inl ⟨by rfl, fun W hS => by go_simp⟩) rfl ?_
  simp only [List.setIfInBounds_toArray, List.set_cons_zero, List.set_cons_succ]
  refine P_takeX 11 30 (.int .i64 0) #[true, true, true, true, true, true, true, true, true, true, true, true, false, false] rfl rfl (by kernel_rfl) (by kernel_rfl) (by kernel_rfl) (by kernel_rfl) (by decide) (fun _ _ _ h => h) (Or.inl ⟨by rfl, fun W hS => by go_simp⟩) rfl ?_
  simp only [List.setIfInBounds_toArray, List.set_cons_zero, List.set_cons_succ]
  refine P_one 12 #[true, true, true, true, true, true, true, true, true, true, true, true, true, false] rfl (by kernel_rfl) (by kernel_rfl) rfl (by kernel_rfl) (fun K hK => ?_)
  go_simp
  refine hK _ _ ?_
  clear hK K
  refine P_one 13 #[true, true, true, true, true, true, true, true, true, true, true, true, true, true] rfl (by kernel_rfl) (by kernel_rfl) rfl (by kernel_rfl) (fun K hK => ?_)
  go_simp
  refine hK _ _ ?_
  clear hK K
  refine P_done (by kernel_rfl) ?_ _
  have HR5 : Hid (Blk wc VB 34 [.slice (cut A c m) (n - m) (c - m)]) := Lib.hid (HR3.out.below HBc.out)
  have HG5 := Lib.hid (grownBy_then HG4.out HBc.out)
  have HO5 := Lib.hid (Ownv.below HO4.out HBc.out)
  clear HR3 HG4 HO4 HBc HBb HBa HSa HSb HS4 HU
  unfold SqPost
  by_cases hu : U = 0
  · have q : ((U : Int) == 0) = true := beq_t (by omega)
    by_cases hm0 : 0 < m
    · have q2 : decide ((m : Int) > 0) = true := by simp; omega
      have HP : Hid (U = 0 ∧ 0 < m) := Lib.hid ⟨hu, hm0⟩
      clear hu
      go_wp2
      go_ret2
      exact ⟨.inl ⟨HP.out, rfl⟩, HR5.out, HG5.out⟩
    · have q2 : decide ((m : Int) > 0) = false := by simp; omega
      have HP : Hid (¬ (U = 0 ∧ 0 < m)) := Lib.hid (fun h => hm0 h.2)
      clear hu
      go_wp2
      go_ret2
      exact ⟨.inr ⟨HP.out, A3, c3', rfl, HO5.out⟩, HR5.out, HG5.out⟩
  · have q : ((U : Int) == 0) = false := beq_f (by omega)
    have HP : Hid (¬ (U = 0 ∧ 0 < m)) := Lib.hid (fun h => hu h.1)
    clear hu
    go_wp2
    go_ret2
    exact ⟨.inr ⟨HP.out, A3, c3', rfl, HO5.out⟩, HR5.out, HG5.out⟩
end Go.Proofs.Ytcbbkflnenkpgaa
