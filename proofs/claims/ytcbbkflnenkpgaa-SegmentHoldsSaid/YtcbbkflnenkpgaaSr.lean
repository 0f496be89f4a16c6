/-
  Contracts of the statements' helpers num, same, lists, plans, ones. Condition: slices that lie in memory.
-/
import Derived.Test.YtcbbkflnenkpgaaSp
import Derived.Laws.BytesArg
namespace Go.Proofs.Ytcbbkflnenkpgaa
open Go.RowKit CM
set_option linter.unusedVariables false
set_option maxRecDepth 100000 in
theorem num_any (k : Int) (w : World) : Calls Try.prog 29 #[.int .i64 k] w fun e w' => e = .returned (.int .i64 k) ∧ w = w' := by
  go_enter Try.func29, Try.ntmps29
  go_wp2
  go_ret
  exact ⟨rfl, rfl⟩
theorem conv_rd {w : World} {A : Option Addr} {n c : Nat} {xs : List Int} (h : Rd .u8 w A n c xs) : (convert 53 9 (.slice A n c)).run Try.prog w = .ok (.string (strOfNums xs)) w := by
  have hu : Try.prog.underlying 9 = some .string := by kernel_rfl
  have h5 : Try.prog.underlying 5 = some (.int .u8) := by kernel_rfl
  cases A with
  | none =>
    have := Rdv.nil h rfl
    have := Rdv.le h
    obtain rfl : n = 0 := by omega
    obtain rfl : xs = [] := List.eq_nil_of_length_eq_zero h.len
    exact run_convert_bytes_nil w 53 5 el53.u h5 0 c 9 hu
  | some a =>
    by_cases hn : n = 0
    · subst hn
      obtain rfl : xs = [] := List.eq_nil_of_length_eq_zero h.len
      rw [run_convert_bytes_string w 53 9 5 _ 0 c el53.u h5 hu, run_bytesToString w a 0 c [] (by simpa using run_loadCells_list (P := Try.prog) w a [] (fun j v hj => by cases hj))]
      rfl
    · obtain ⟨b, o, hA, _⟩ := Rdv.ptr h (by have := Rdv.le h; omega)
      cases hA
      exact run_convert_bytes_arg w 53 5 el53.u h5 b o n c xs h.len (fun i hi => Rd.cell h hi) 9 hu
theorem strOf_inj {xs ys : List Int} (hx : ∀ x ∈ xs, 0 ≤ x ∧ x < 256) (hy : ∀ x ∈ ys, 0 ≤ x ∧ x < 256) (h1 : xs.map (fun n => UInt8.ofNat n.toNat) = ys.map (fun n => UInt8.ofNat n.toNat)) : xs = ys := by
  have hl : xs.length = ys.length := by simpa using congrArg List.length h1
  apply List.ext_getElem hl
  intro i hi hj
  have h2 : (xs.map (fun n => UInt8.ofNat n.toNat))[i]'(by simpa using hi) = (ys.map (fun n => UInt8.ofNat n.toNat))[i]'(by simpa using hj) := by simp only [h1]
  simp only [List.getElem_map] at h2
  have h3 := congrArg UInt8.toNat h2
  have a := hx _ (List.getElem_mem hi)
  have b := hy _ (List.getElem_mem hj)
  simp only [UInt8.toNat_ofNat'] at h3
  rw [Nat.mod_eq_of_lt (by omega), Nat.mod_eq_of_lt (by omega)] at h3
  omega
theorem strEq {xs ys : List Int} (hx : ∀ x ∈ xs, 0 ≤ x ∧ x < 256) (hy : ∀ x ∈ ys, 0 ≤ x ∧ x < 256) : ((strOfNums xs).toList == (strOfNums ys).toList) = decide (xs = ys) := by
  rw [ByteArray.toList_eq, ByteArray.toList_eq, strOfNums_data, strOfNums_data]
  by_cases h : xs = ys
  · subst h; simp
  · have h9 : ¬ (xs.map fun n => UInt8.ofNat n.toNat) = (ys.map fun n => UInt8.ofNat n.toNat) := fun e => h (strOf_inj hx hy e)
    simp only [h, decide_false]
    exact beq_eq_false_iff_ne.2 h9

def IntsInv (w : World) (n : Nat) (xs ys : List Int) (i : Value) (wr : World) : Prop := ∃ j : Nat, j ≤ n ∧ i = .int .i64 j ∧ (∀ q, q < j → gi xs q = gi ys q) ∧ Qt w wr
set_option maxRecDepth 100000 in
set_option maxHeartbeats 400000 in
theorem same5_any (A B : Option Addr) (n c m d : Nat) (xs ys : List Int) (w : World) (hx : Rd .i64 w A n c xs) (hy : Rd .i64 w B m d ys) :
    Calls Try.prog 24 #[.slice A n c, .slice B m d] w fun e w' => e = .returned (.bool (decide (xs = ys))) ∧ Qt w w' := by
  have b1 := hx.bd.1
  have b2 := hy.bd.1
  by_cases hnm : n = m
  · subst hnm
    have hne : ((n : Int) != (n : Int)) = false := bne_f rfl
    go_enter Try.func24, Try.ntmps24
    go_wp2
    go_loopw [5] (fun i wr => IntsInv w n xs ys i wr) (fun i _ => n - (intOf i).toNat)
    case atStart => exact ⟨0, by omega, rfl, by intro q hq; omega, 0, rfl⟩
    case round =>
      obtain ⟨j, hj, rfl, hv, q0, rfl⟩ := hrel
      by_cases hlt : j < n
      · have hc := Rd.cell hx hlt
        have hd := Rd.cell hy hlt
        have hix := fun W => Rdv.ix hx el34 hlt .i64 W
        have hiy := fun W => Rdv.ix hy el34 hlt .i64 W
        have HV := Lib.hid hv; clear hv
        by_cases h1 : gi xs j = gi ys j
        · have h1' := bne_f h1
          have H1 := Lib.hid h1; clear h1
          go_wp2
          go_quiet (fail)
          go_wp2
          go_roundw
          case rel => exact ⟨j + 1, by omega, by go_num, fun q hq => lt_succ_cases HV.out H1.out q hq, by first | exact ⟨_, rfl⟩ | exact Qt.drewN ⟨_, rfl⟩ _⟩
          case measure => simp [intOf]; omega
        · have h1' := bne_t h1
          have hf : decide (xs = ys) = false := by simp; rintro rfl; exact h1 rfl
          go_wp2
          go_quiet (fail)
          go_wp2
          go_ret
          exact ⟨ret_bool hf.symm, by first | exact ⟨_, rfl⟩ | exact Qt.drewN ⟨_, rfl⟩ _⟩
      · have hf : decide (xs = ys) = true := by
          have hl1 := hx.len; have hl2 := hy.len
          simp only [decide_eq_true_eq]
          refine ext_gi (by rw [hl1, hl2]) fun q hq => hv q (by omega)
        go_wp2
        go_ret
        exact ⟨ret_bool hf.symm, by first | exact ⟨_, rfl⟩ | exact Qt.drewN ⟨_, rfl⟩ _⟩
  · have hne : ((n : Int) != (m : Int)) = true := bne_t (by omega)
    have hf : decide (xs = ys) = false := by
      simp; rintro rfl; have := hx.len; have := hy.len; omega
    go_enter Try.func24, Try.ntmps24
    go_wp2
    go_ret
    exact ⟨ret_bool hf.symm, 0, rfl⟩
/-- a list of rows of bytes that can be read -/
structure RL (w : World) (A : Option Addr) (n c : Nat) (L : List Sv) : Prop where
  o : Rdv w A n c (L.map Sv.v)
  r : ∀ s ∈ L, Rd .u8 w s.A s.n s.c s.xs
theorem BL.rl {w : World} {base c : Nat} {A : Option Addr} {L : List Sv} (h : BL w base A c L) : RL w A L.length c L := ⟨h.o.rd, fun s hs => Own.rd (h.r s hs).1⟩
theorem RL.len {w : World} {A : Option Addr} {n c : Nat} {L : List Sv} (h : RL w A n c L) : L.length = n := by have := h.o.len; simpa using this
theorem RL.below {w w' : World} {A : Option Addr} {n c : Nat} {L : List Sv} (h : RL w A n c L) (hB : Below w.heap.size w w') : RL w' A n c L := ⟨Rdv.below h.o hB, fun s hs => Rdv.below (h.r s hs) hB⟩
theorem RL.drewN {w : World} {A : Option Addr} {n c : Nat} {L : List Sv} (h : RL w A n c L) (q : Nat) : RL (w.drewN q) A n c L := ⟨Rdv.drewN h.o q, fun s hs => Rdv.drewN (h.r s hs) q⟩
theorem RL.get {w : World} {A : Option Addr} {n c : Nat} {L : List Sv} (h : RL w A n c L) {j : Nat} (hj : j < n) : ∃ s, L[j]? = some s ∧ w.cell? (adr A j) = some (.slice s.A s.n s.c) ∧ Rd .u8 w s.A s.n s.c s.xs := by
  have hl := h.len
  have hj' : j < L.length := by omega
  exact ⟨L[j], List.getElem?_eq_getElem hj', h.o.at_ j _ (by simp [hj', Sv.v]), h.r _ (List.getElem_mem hj')⟩
/-- all numbers are bytes -/
def Byt (xs : List Int) : Prop := ∀ x ∈ xs, 0 ≤ x ∧ x < 256
theorem byt_bit {xs : List Int} (h : Bit xs) : Byt xs := fun x hx => by rcases h x hx with rfl | rfl <;> decide
def LsInv (w : World) (n : Nat) (L M : List Sv) (i : Value) (wr : World) : Prop := ∃ j : Nat, j ≤ n ∧ i = .int .i64 j ∧ (∀ q, q < j → (L[q]?.map (·.xs)) = (M[q]?.map (·.xs))) ∧ Qt w wr
set_option maxRecDepth 100000 in
set_option maxHeartbeats 400000 in
theorem lists_any (A B : Option Addr) (n c m d : Nat) (L M : List Sv) (w : World) (hx : RL w A n c L) (hy : RL w B m d M) (h1 : ∀ s ∈ L, Byt s.xs) (h2 : ∀ s ∈ M, Byt s.xs) :
    Calls Try.prog 36 #[.slice A n c, .slice B m d] w fun e w' => e = .returned (.bool (decide (L.map (·.xs) = M.map (·.xs)))) ∧ Qt w w' := by
  have b1 := hx.o.bd.1
  have b2 := hy.o.bd.1
  have lx := hx.len
  have ly := hy.len
  by_cases hnm : n = m
  · subst hnm
    have hne : ((n : Int) != (n : Int)) = false := bne_f rfl
    have HXL := Lib.hid lx
    have HYL := Lib.hid ly
    clear lx ly
    go_enter Try.func36, Try.ntmps36
    go_wp2
    go_loopw [5] (fun i wr => LsInv w n L M i wr) (fun i _ => n - (intOf i).toNat)
    case atStart => exact ⟨0, by omega, rfl, by intro q hq; omega, 0, rfl⟩
    case round =>
      obtain ⟨j, hj, rfl, hv, q0, rfl⟩ := hrel
      by_cases hlt : j < n
      · obtain ⟨s, hs, hc, hR⟩ := hx.get hlt
        obtain ⟨t, ht, hd, hT⟩ := hy.get hlt
        have hix := fun W => Rdv.ix hx.o el55 hlt .i64 W
        have hiy := fun W => Rdv.ix hy.o el55 hlt .i64 W
        have HV := Lib.hid hv; clear hv
        have hse := strEq (h1 s (List.mem_of_getElem? hs)) (h2 t (List.mem_of_getElem? ht))
        have k1 := fun q => conv_rd (Rdv.drewN hR q)
        have k2 := fun q => conv_rd (Rdv.drewN hT q)
        have HS := Lib.hid hs
        have HT := Lib.hid ht
        by_cases h9 : s.xs = t.xs
        · have H9 := Lib.hid h9
          rw [decide_eq_true h9] at hse
          clear hs ht h9 hR hT
          generalize strOfNums s.xs = S1 at *
          generalize strOfNums t.xs = S2 at *
          go_wp2
          go_quiet (fail)
          go_wp2
          go_roundw
          case rel => exact ⟨j + 1, by omega, by go_num, fun q hq => lt_succ_cases HV.out (by rw [HS.out, HT.out]; simp [H9.out]) q hq, by first | exact ⟨_, rfl⟩ | exact Qt.drewN ⟨_, rfl⟩ _⟩
          case measure => simp [intOf]; omega
        · have hf : decide (L.map (·.xs) = M.map (·.xs)) = false := by
            rw [decide_eq_false_iff_not]
            intro e
            have e1 := congrArg (fun l => l[j]?) e
            simp only [List.getElem?_map, hs, ht, Option.map_some, Option.some.injEq] at e1
            exact h9 e1
          have HF := Lib.hid hf
          rw [decide_eq_false h9] at hse
          clear hs ht h9 hR hT hf
          generalize strOfNums s.xs = S1 at *
          generalize strOfNums t.xs = S2 at *
          go_wp2
          go_quiet (fail)
          go_wp2
          go_ret
          exact ⟨ret_bool HF.out.symm, by first | exact ⟨_, rfl⟩ | exact Qt.drewN ⟨_, rfl⟩ _⟩
      · have hf : decide (L.map (·.xs) = M.map (·.xs)) = true := by
          rw [decide_eq_true_eq]
          apply List.ext_getElem?
          intro q
          by_cases hq : q < n
          · rw [List.getElem?_map, List.getElem?_map]; exact hv q (by omega)
          · rw [List.getElem?_eq_none (by simp [HXL.out]; omega), List.getElem?_eq_none (by simp [HYL.out]; omega)]
        have HF := Lib.hid hf
        clear hf hv
        go_wp2
        go_ret
        exact ⟨ret_bool HF.out.symm, by first | exact ⟨_, rfl⟩ | exact Qt.drewN ⟨_, rfl⟩ _⟩
  · have hne : ((n : Int) != (m : Int)) = true := bne_t (by omega)
    have hf : decide (L.map (·.xs) = M.map (·.xs)) = false := by
      rw [decide_eq_false_iff_not]
      intro e
      have := congrArg List.length e
      simp at this; omega
    have HF := Lib.hid hf
    clear hf lx ly
    go_enter Try.func36, Try.ntmps36
    go_wp2
    go_ret
    exact ⟨ret_bool HF.out.symm, 0, rfl⟩
def OnInv (w : World) (n : Nat) (A : Option Addr) (i : Value) (wr : World) : Prop := ∃ j : Nat, j ≤ n ∧ i = .int .i64 j ∧ Own .u8 5 wr w.heap.size A n n (List.replicate j 1 ++ List.replicate (n - j) 0) ∧ Below w.heap.size w wr
theorem ones_step (n j : Nat) (h : j < n) : (List.replicate j (1 : Int) ++ List.replicate (n - j) 0).set j 1 = List.replicate (j + 1) 1 ++ List.replicate (n - (j + 1)) 0 := by
  rw [List.set_append_right _ _ (by simp), List.length_replicate, Nat.sub_self, show n - j = (n - (j + 1)) + 1 by omega, List.replicate_succ, List.set_cons_zero, List.replicate_succ' (n := j), List.append_assoc]
  rfl
set_option maxRecDepth 100000 in
set_option maxHeartbeats 400000 in
theorem ones_any (n : Nat) (w : World) (hn : n ≤ 100000) : Calls Try.prog 61 #[.int .i64 n] w fun e w' => ∃ A, e = .returned (.slice A n n) ∧ Own .u8 5 w' w.heap.size A n n (List.replicate n 1) ∧ Below w.heap.size w w' := by
  go_enter Try.func61, Try.ntmps61
  go_wp2_with (at_make; refine list_of rfl fun K hK => wp_mk _ _ 53 rfl el53 rfl rfl (by omega) (by unfold maxLen; omega) ?_; intro A w1 hO hB1 hA; refine hK _ _ ?_; clear hK K)
  go_loopw [4] (fun i wr => OnInv w n A i wr) (fun i _ => n - (intOf i).toNat)
  case atStart => exact ⟨0, by omega, rfl, Own.of_eq hO rfl (by simp), hB1⟩
  case round =>
    obtain ⟨j, hj, rfl, hOj, hBj⟩ := hrel
    by_cases hlt : j < n
    · have hix := fun W => Rdv.ix (Own.rd hOj) el53 hlt .i64 W
      have hcell := Rd.cell (Own.rd hOj) hlt
      have hfz := Ownv.frozen hOj (by omega) j
      have HSET := Lib.hid (Own.set_ hOj hlt 1)
      go_wp2
      go_roundw
      case rel => exact ⟨j + 1, by omega, by go_num, Own.of_eq HSET.out.1 rfl (by rw [ones_step n j hlt]), hBj.grown HSET.out.2 hBj.size (fun k hk => by injection hk with hk; rw [← hk]; exact (Ownv.blk_ge hOj (by omega)).1)⟩
      case measure => simp [intOf]; omega
    · obtain rfl : j = n := by omega
      go_wp2
      go_ret
      exact ⟨_, rfl, Own.of_eq hOj rfl (by simp), hBj⟩
def layV (L : List Int) : Value := .agg (ints8 L).toArray
set_option maxRecDepth 100000 in
theorem plans_any (b : Nat) (w : World) (h1 : 1 ≤ b) (h2 : b ≤ 79560) (y0 y1 y2 y3 y4 y5 y6 : Int) (hy : LY b = [y0, y1, y2, y3, y4, y5, y6]) :
    Calls Try.prog 60 #[.int .i64 b, .agg #[.int .i64 y0, .int .i64 y1, .int .i64 y2, .int .i64 y3, .int .i64 y4, .int .i64 y5, .int .i64 y6]] w fun e w' => e = .returned (.bool true) ∧ Below w.heap.size w w' := by
  have hp := Lib.hid (fun W => plan_top b W h1 h2)
  rw [hy] at hp
  simp only [ints8, List.map_cons, List.map_nil] at hp
  have hB0 : Below w.heap.size w (w.alloc (.cells (ints8 [y0, y1, y2, y3, y4, y5, y6]).toArray 23)) := (Below.refl _ _).alloc (Nat.le_refl _) _
  have hK0 : Blk (w.alloc (.cells (ints8 [y0, y1, y2, y3, y4, y5, y6]).toArray 23)) w.heap.size 23 (ints8 [y0, y1, y2, y3, y4, y5, y6]) := Blk.new w _ 23 rfl
  simp only [ints8, List.map_cons, List.map_nil] at hB0 hK0
  clear hy
  go_enter Try.func60, Try.ntmps60
  go_wp2_with fail
  generalize w.alloc (.cells #[.int .i64 y0, .int .i64 y1, .int .i64 y2, .int .i64 y3, .int .i64 y4, .int .i64 y5, .int .i64 y6] 23) = W at *
  refine (hp.out W).mono ?_
  rintro e w1 ⟨rfl, hB1⟩
  have hK1 := (hK0.below hB1).alloc (.cells #[.int .i64 y0, .int .i64 y1, .int .i64 y2, .int .i64 y3, .int .i64 y4, .int .i64 y5, .int .i64 y6] 23)
  have hK2 := Blk.new w1 (ints8 [y0, y1, y2, y3, y4, y5, y6]) 23 rfl
  have hB2 := bal (hB0.trans (hB1.mono hB0.size)) (.cells #[.int .i64 y0, .int .i64 y1, .int .i64 y2, .int .i64 y3, .int .i64 y4, .int .i64 y5, .int .i64 y6] 23)
  simp only [ints8, List.map_cons, List.map_nil] at hK2
  obtain ⟨⟨c0, c1, c2, c3, c4, c5, c6⟩, -⟩ := Blk.seven hK1
  have HB2 := Lib.hid hB2
  clear hB0 hB1 hB2 hK0 hK1 hK2 hp
  go_wp2_with (go_at_call 29; refine (num_any _ _).mono ?_; rintro e w' ⟨rfl, rfl⟩)
  go_ret
  exact ⟨rfl, HB2.out⟩
end Go.Proofs.Ytcbbkflnenkpgaa
