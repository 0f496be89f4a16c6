/-
  Contracts of the statements' helpers num, same, ints, sized, and of the reference's Bits, Check and Word. Condition: a bound on the length.
-/
import Derived.Test.YtkagdiejpcfggaaY
import Derived.Laws.BytesArg
namespace Go.Proofs.Ytkagdiejpcfggaa
open Go.RowKit
set_option linter.unusedVariables false
theorem num_any (k : Int) (w : World) : Calls Try.prog 14 #[.int .i64 k] w fun e w' => e = .returned (.int .i64 k) ∧ w = w' := by
  go_enter Try.func14, Try.ntmps14
  go_wp2
  go_ret
  exact ⟨rfl, rfl⟩
theorem conv_rd {w : World} {A : Option Addr} {n c : Nat} {xs : List Int} (h : Rd .u8 w A n c xs) : (convert 22 9 (.slice A n c)).run Try.prog w = .ok (.string (strOfNums xs)) w := by
  have hu : Try.prog.underlying 9 = some .string := by kernel_rfl
  have h5 : Try.prog.underlying 5 = some (.int .u8) := by kernel_rfl
  cases A with
  | none =>
    have := Rdv.nil h rfl
    have := Rdv.le h
    obtain rfl : n = 0 := by omega
    obtain rfl : xs = [] := List.eq_nil_of_length_eq_zero h.len
    exact run_convert_bytes_nil w 22 5 el22.u h5 0 c 9 hu
  | some a =>
    by_cases hn : n = 0
    · subst hn
      obtain rfl : xs = [] := List.eq_nil_of_length_eq_zero h.len
      rw [run_convert_bytes_string w 22 9 5 _ 0 c el22.u h5 hu, run_bytesToString w a 0 c [] (by simpa using run_loadCells_list (P := Try.prog) w a [] (fun j v hj => by cases hj))]
      rfl
    · obtain ⟨b, o, hA, _⟩ := Rdv.ptr h (by have := Rdv.le h; omega)
      cases hA
      exact run_convert_bytes_arg w 22 5 el22.u h5 b o n c xs h.len (fun i hi => Rd.cell h hi) 9 hu
theorem strOf_inj {xs ys : List Int} (hx : ∀ x ∈ xs, 0 ≤ x ∧ x < 256) (hy : ∀ x ∈ ys, 0 ≤ x ∧ x < 256) (h1 : xs.map (fun n => UInt8.ofNat n.toNat) = ys.map (fun n => UInt8.ofNat n.toNat)) : xs = ys := by
  have hl : xs.length = ys.length := by simpa using congrArg List.length h1
  apply List.ext_getElem hl
  intro i hi hj
  have h2 : (xs.map (fun n => UInt8.ofNat n.toNat))[i]'(by simpa using hi) = (ys.map (fun n => UInt8.ofNat n.toNat))[i]'(by simpa using hj) := by simp only [h1]
  simp only [List.getElem_map] at h2
  have h3 := congrArg UInt8.toNat h2
  have a := hx _ (List.getElem_mem hi)
  have b := hy _ (List.getElem_mem hj)
  simp only [UInt8.toNat_ofNat'] at h3
  rw [Nat.mod_eq_of_lt (by omega), Nat.mod_eq_of_lt (by omega)] at h3
  omega
theorem strEq {xs ys : List Int} (hx : ∀ x ∈ xs, 0 ≤ x ∧ x < 256) (hy : ∀ x ∈ ys, 0 ≤ x ∧ x < 256) : ((strOfNums xs).toList == (strOfNums ys).toList) = decide (xs = ys) := by
  rw [ByteArray.toList_eq, ByteArray.toList_eq, strOfNums_data, strOfNums_data]
  by_cases h : xs = ys
  · subst h; simp
  · have h9 : ¬ (xs.map fun n => UInt8.ofNat n.toNat) = (ys.map fun n => UInt8.ofNat n.toNat) := fun e => h (strOf_inj hx hy e)
    simp only [h, decide_false]
    exact beq_eq_false_iff_ne.2 h9
theorem ib_wf (bs : List Bool) : ∀ x ∈ bs.map ib, 0 ≤ x ∧ x < 256 := by
  intro x hx
  obtain ⟨b, _, rfl⟩ := List.mem_map.1 hx
  cases b <;> decide
theorem same_any (A B : Option Addr) (n c m d : Nat) (xs ys : List Int) (w : World) (hx : Rd .u8 w A n c xs) (hy : Rd .u8 w B m d ys) (h1 : ∀ x ∈ xs, 0 ≤ x ∧ x < 256) (h2 : ∀ x ∈ ys, 0 ≤ x ∧ x < 256) :
    Calls Try.prog 13 #[.slice A n c, .slice B m d] w fun e w' => e = .returned (.bool (decide (xs = ys))) ∧ w = w' := by
  have c1 := conv_rd hx
  have c2 := conv_rd hy
  rw [← strEq h1 h2]
  clear h1 h2 hx hy
  generalize strOfNums xs = s at *
  generalize strOfNums ys = t at *
  go_enter Try.func13, Try.ntmps13
  go_wp2
  go_ret
  exact ⟨rfl, rfl⟩
def IntsInv (w : World) (n : Nat) (xs ys : List Int) (i : Value) (wr : World) : Prop := ∃ j : Nat, j ≤ n ∧ i = .int .i64 j ∧ (∀ q, q < j → gi xs q = gi ys q) ∧ Qt w wr
set_option maxHeartbeats 400000 in
theorem ints_any (A B : Option Addr) (n c m d : Nat) (xs ys : List Int) (w : World) (hx : Rd .i64 w A n c xs) (hy : Rd .i64 w B m d ys) :
    Calls Try.prog 19 #[.slice A n c, .slice B m d] w fun e w' => e = .returned (.bool (decide (xs = ys))) ∧ Qt w w' := by
  have b1 := hx.bd.1
  have b2 := hy.bd.1
  by_cases hnm : n = m
  · subst hnm
    have hne : ((n : Int) != (n : Int)) = false := bne_f rfl
    go_enter Try.func19, Try.ntmps19
    go_wp2
    go_loopw [5] (fun i wr => IntsInv w n xs ys i wr) (fun i _ => n - (intOf i).toNat)
    case atStart => exact ⟨0, by omega, rfl, by intro q hq; omega, 0, rfl⟩
    case round =>
      obtain ⟨j, hj, rfl, hv, q0, rfl⟩ := hrel
      by_cases hlt : j < n
      · have hc := Rd.cell hx hlt
        have hd := Rd.cell hy hlt
        have hix := fun W => Rdv.ix hx el33 hlt .i64 W
        have hiy := fun W => Rdv.ix hy el33 hlt .i64 W
        have HV := Lib.hid hv; clear hv
        by_cases h1 : gi xs j = gi ys j
        · have h1' := bne_f h1
          have H1 := Lib.hid h1; clear h1
          go_wp2
          go_quiet (fail)
          go_wp2
          go_roundw
          case rel => exact ⟨j + 1, by omega, by go_num, fun q hq => lt_succ_cases HV.out H1.out q hq, by first | exact ⟨_, rfl⟩ | exact Qt.drewN ⟨_, rfl⟩ _⟩
          case measure => simp [intOf]; omega
        · have h1' := bne_t h1
          have hf : decide (xs = ys) = false := by simp; rintro rfl; exact h1 rfl
          go_wp2
          go_quiet (fail)
          go_wp2
          go_ret
          exact ⟨ret_bool hf.symm, by first | exact ⟨_, rfl⟩ | exact Qt.drewN ⟨_, rfl⟩ _⟩
      · have hf : decide (xs = ys) = true := by
          have hl1 := hx.len; have hl2 := hy.len
          simp only [decide_eq_true_eq]
          refine ext_gi (by rw [hl1, hl2]) fun q hq => hv q (by omega)
        go_wp2
        go_ret
        exact ⟨ret_bool hf.symm, by first | exact ⟨_, rfl⟩ | exact Qt.drewN ⟨_, rfl⟩ _⟩
  · have hne : ((n : Int) != (m : Int)) = true := bne_t (by omega)
    have hf : decide (xs = ys) = false := by
      simp; rintro rfl; have := hx.len; have := hy.len; omega
    go_enter Try.func19, Try.ntmps19
    go_wp2
    go_ret
    exact ⟨ret_bool hf.symm, 0, rfl⟩
/-- the block of bits that some bytes and a number stand for -/
def szK (u : Nat) : Nat := 40 + 8 * (u % 60)
def szB (xs : List Int) (u : Nat) : List Bool := (List.range (szK u)).map fun i => decide (gi xs (i % xs.length) % 2 = 1)
def SzInv (w : World) (xs : List Int) (k : Nat) (M : Option Addr) (i : Value) (wr : World) : Prop :=
  ∃ (j : Nat) (vs : List Int), j ≤ k ∧ i = .int .i64 j ∧ Own .u8 5 wr w.heap.size M k k vs ∧ (∀ q, q < j → gi vs q = gi xs (q % xs.length) % 2) ∧ (∀ q, j ≤ q → q < k → gi vs q = 0) ∧ Below w.heap.size w wr
theorem szB_len (xs : List Int) (u : Nat) : (szB xs u).length = szK u := by simp [szB]
theorem szB_gi (xs : List Int) (u : Nat) (h0 : ∀ x ∈ xs, 0 ≤ x) (q : Nat) (hq : q < szK u) : gi ((szB xs u).map ib) q = gi xs (q % xs.length) % 2 := by
  rw [gi_ib _ _ (by rw [szB_len]; exact hq)]
  simp only [szB, List.getElem_map, List.getElem_range]
  unfold ib
  by_cases e : gi xs (q % xs.length) % 2 = 1
  · simp [e]
  · rw [if_neg (by simpa using e)]; omega
set_option maxRecDepth 100000 in
set_option maxHeartbeats 600000 in
theorem sized_any (A : Option Addr) (n c u : Nat) (xs : List Int) (w : World) (h : Rd .u8 w A n c xs) (h0 : ∀ x ∈ xs, 0 ≤ x ∧ x < 256) (hu : u < 256) :
    Calls Try.prog 21 #[.slice A n c, .int .u8 (u : Int)] w fun e w' => ∃ M, e = .returned (.slice M (szK u) (szK u)) ∧ Own .u8 5 w' w.heap.size M (szK u) (szK u) ((szB xs u).map ib) ∧ Below w.heap.size w w' := by
  have hbd := h.bd.1
  have hk : szK u ≤ 512 := by unfold szK; omega
  have hk0 : 40 ≤ szK u := by unfold szK; omega
  have hwu : IntKind.i64.wrap (u : Int) = (u : Int) := IntWalk.i64_in _ (by omega)
  have hkk : (40 : Int) + 8 * ((u : Int) % 60) = (szK u : Int) := by unfold szK; omega
  have hl := h.len
  have HEND : Hid (∀ vs : List Int, vs.length = szK u → (∀ q, q < szK u → gi vs q = gi xs (q % xs.length) % 2) → vs = (szB xs u).map ib) := Lib.hid (fun vs hv hq => by
    refine ext_gi (by rw [hv, List.length_map, szB_len]) fun q hq' => ?_
    rw [hq q (by omega), szB_gi xs u (fun x hx => (h0 x hx).1) q (by omega)])
  have HG : Hid (∀ q, q < n → 0 ≤ gi xs q ∧ gi xs q < 256) := Lib.hid (fun q hq => h0 _ (gi_mem xs q (by omega)))
  have HL := Lib.hid hl
  have HH := Lib.hid h
  have HR0 : Hid (xs.length = 0 → ∀ q, gi xs q % 2 = 0) := Lib.hid (fun e q => by
    obtain rfl := List.eq_nil_of_length_eq_zero e; rfl)
  clear h0 hl h
  generalize hkd : szK u = k at *
  have HKD := Lib.hid hkd
  clear hkd
  go_enter Try.func21, Try.ntmps21
  go_wp2_with (at_make; refine list_of rfl fun K hK => wp_mk (n := k) _ _ 22 rfl el22 rfl rfl (by omega) (by unfold maxLen; omega) ?_; intro M wm hOm hBm hM; refine hK _ _ ?_; clear hK K)
  have hst : SzInv w xs k M (.int .i64 0) wm := ⟨0, List.replicate k 0, by omega, rfl, Own.of_eq hOm rfl (by simp), by intro q hq; omega, by intro q _ hq; rw [gi_eq _ _ (by simpa using hq)]; simp, hBm⟩
  clear hOm hBm
  go_loopw [7] (fun i wr => SzInv w xs k M i wr) (fun i _ => k - (intOf i).toNat)
  case atStart => exact hst
  case round =>
    obtain ⟨j, vs, hj, rfl, hO, hq, hz, hB⟩ := hrel
    clear hst
    by_cases hlt : j < k
    · by_cases hn : 0 < n
      · have hx := Rdv.below HH.out hB
        have hm : j % n < n := Nat.mod_lt _ hn
        have hmi : (j : Int) % (n : Int) = ((j % n : Nat) : Int) := by omega
        have hix := fun W => Rdv.ix hx el22 hm .i64 W
        have hcell := Rd.cell hx hm
        obtain ⟨g0, g1⟩ := HG.out _ hm
        have hm2 : 0 ≤ gi xs (j % n) % 2 ∧ gi xs (j % n) % 2 < 2 := by omega
        generalize hjm : j % n = jm at *
        have HJM := Lib.hid hjm
        have hix3 := fun W => Rdv.ix (Own.rd hO) el22 hlt .i64 W
        have hcell3 := Rd.cell (Own.rd hO) hlt
        have hfz := Ownv.frozen hO (by omega) j
        have HSET := Lib.hid (Own.set_ hO hlt (gi xs jm % 2))
        have HQ := Lib.hid hq
        have HZ := Lib.hid hz
        have HB := Lib.hid hB
        have HLV := Lib.hid (Own.rd hO).len
        have HGE := Lib.hid (Ownv.blk_ge hO (by omega)).1
        clear hjm hx hq hz hB hO
        go_wp2
        go_roundw
        case rel =>
          refine ⟨j + 1, _, by omega, by go_num, HSET.out.1, fun q hq => ?_, fun q hq1 hq2 => ?_, HB.out.grown HSET.out.2 HB.out.size (fun k hk => by have := Option.some.inj hk; have := HGE.out; omega)⟩
          · rw [gi_set _ _ _ _ (by rw [HLV.out]; exact hlt)]
            by_cases e : j = q
            · subst e; rw [if_pos rfl, HL.out, HJM.out]
            · rw [if_neg e]; exact HQ.out q (by omega)
          · rw [gi_set _ _ _ _ (by rw [HLV.out]; exact hlt), if_neg (by omega)]; exact HZ.out q (by omega) hq2
        case measure => simp [intOf]; omega
      · obtain rfl : n = 0 := by omega
        have he := HEND.out vs (Own.rd hO).len (fun q hq' => by
          rw [HR0.out HL.out]
          by_cases e : q < j
          · rw [hq q e]; exact HR0.out HL.out _
          · exact hz q (by omega) hq')
        subst he
        have HO := Lib.hid hO
        have HB := Lib.hid hB
        clear hq hz hO hB
        go_wp2
        go_ret
        exact ⟨M, rfl, HO.out, HB.out⟩
    · obtain rfl : j = k := by omega
      have he := HEND.out vs (Own.rd hO).len hq
      subst he
      have HO := Lib.hid hO
      have HB := Lib.hid hB
      clear hq hz hO hB
      by_cases hn : 0 < n
      · go_wp2
        go_ret
        exact ⟨M, rfl, HO.out, HB.out⟩
      · obtain rfl : n = 0 := by omega
        go_wp2
        go_ret
        exact ⟨M, rfl, HO.out, HB.out⟩
set_option maxRecDepth 100000 in
theorem rbits_bad (A : Option Addr) (n c : Nat) (w : World) (hg : ¬ goodLen n) (hn : (n : Int) ≤ 9223372036854775807) :
    Calls Try.prog 23 #[.slice A n c] w fun e w' => e = .returned (.tuple #[.slice none 0 0, .int .i64 2]) ∧ Below w.heap.size w w' := by
  by_cases hm : n % 3 = 0
  · have hv : ¬ validK (kLen n) = true := fun h => hg ⟨hm, h⟩
    have h1 : ((n : Int) % 3 != 0) = false := bne_f (by omega)
    have hc := fun W => Lib.hid (rsize_any (kLen n) W)
    rw [if_neg hv] at hc
    unfold kLen at hc
    clear hv hg
    go_enter Try.func23, Try.ntmps23
    go_wp2_with (go_at_call 16; refine (hc _).out.mono ?_; rintro e w1 ⟨rfl, hB⟩)
    go_ret2
    exact ⟨rfl, hB⟩
  · have h1 : ((n : Int) % 3 != 0) = true := bne_t (by omega)
    clear hg
    go_enter Try.func23, Try.ntmps23
    go_wp2
    go_ret2
    exact ⟨rfl, Below.refl _ _⟩
def RBInv (w : World) (n : Nat) (xs : List Int) (i : Value) (wr : World) : Prop := ∃ j : Nat, j ≤ n ∧ i = .int .i64 j ∧ (∀ q, q < j → gi xs q ≤ 1) ∧ Below w.heap.size w wr
def RBPost (w : World) (k : Nat) (xs : List Int) (e : Ending) (w' : World) : Prop :=
  Below w.heap.size w w' ∧ (ValidB xs = false → e = .returned (.tuple #[.slice none 0 0, .int .i64 3])) ∧ (ValidB xs = true → ∃ A c, e = .returned (.tuple #[.slice A k c, .int .i64 0]) ∧ Own .u8 5 w' w.heap.size A k c (xs.take k))
set_option maxRecDepth 100000 in
set_option maxHeartbeats 600000 in
theorem rbits_any (A : Option Addr) (n c k : Nat) (xs : List Int) (w : World) (h : Rd .u8 w A n c xs) (hk : n = 3 * (k + 4)) (hv : validK (k : Int) = true) :
    Calls Try.prog 23 #[.slice A n c] w (RBPost w k xs) := by
  have hbd := h.bd.1
  obtain ⟨k0, k1⟩ := valid_len hv
  have hle := h.le
  have h1 : ((n : Int) % 3 != 0) = false := bne_f (by omega)
  have h3 : (n : Int) / 3 - 4 = (k : Int) := by omega
  have hc := fun W => Lib.hid (rsize_any (k : Int) W)
  rw [if_pos hv] at hc
  have hz : ((3 * ((k : Int) + 4) : Int) == 0) = false := beq_f (by omega)
  have HL := Lib.hid h.len
  have HH := Lib.hid h
  have hkn : k ≤ n := by omega
  clear h hv hk
  go_enter Try.func23, Try.ntmps23
  go_wp2_with (go_at_call 16; refine (hc _).out.mono ?_; rintro e w1 ⟨rfl, hB⟩)
  have HB1 := Lib.hid hB
  clear hB hc
  go_loopw [5] (fun i wr => RBInv w n xs i wr) (fun i _ => n - (intOf i).toNat)
  case atStart => exact ⟨0, by omega, rfl, by intro q hq; omega, HB1.out⟩
  case round =>
    obtain ⟨j, hj, rfl, hq, hB⟩ := hrel
    clear HB1
    by_cases hlt : j < n
    · have hx := Rdv.below HH.out hB
      have hcl := Rd.cell hx hlt
      have hix := fun W => Rdv.ix hx el22 hlt .i64 W
      have HQ := Lib.hid hq
      have HB := Lib.hid hB
      clear hq hB hx
      by_cases hg : gi xs j ≤ 1
      · have h1' : decide (1 < gi xs j) = false := by simp; omega
        have HG := Lib.hid hg
        clear hg
        go_wp2
        go_roundw
        case rel => exact ⟨j + 1, by omega, by go_num, fun q hq => lt_succ_cases HQ.out HG.out q hq, HB.out⟩
        case measure => simp [intOf]; omega
      · have h1' : decide (1 < gi xs j) = true := by simp; omega
        have hf := Lib.hid (validB_f (by rw [HL.out]; exact hlt) (by omega : 1 < gi xs j))
        clear hg
        go_wp2
        go_ret2
        exact ⟨HB.out, fun _ => rfl, fun e => by rw [hf.out] at e; cases e⟩
    · have hf := Lib.hid (validB_t (xs := xs) (by rw [HL.out]; intro q hq'; exact hq q (by omega)))
      obtain rfl : j = n := by omega
      have hx := Rdv.below HH.out hB
      have hsl := fun W => Rdv.slh hx el22 .i64 (m := k) (by omega) W
      have hxk := Rd.upto hx hkn
      have HB := Lib.hid hB
      have HXK := Lib.hid (Rdv.alloc hxk (.cells #[] 5))
      have hO0 : Ownv 5 (wr.alloc (.cells #[] 5)) wr.heap.size (some ⟨wr.heap.size, 0, none⟩) 0 0 [] := Ownv.lit wr #[] 5 rfl (Nat.le_refl _) (Nat.zero_le _)
      have HO0 := Lib.hid hO0
      clear hq hB hx hxk hO0
      go_wp2_with (at_builtin; refine list_of rfl fun K hK => wp_app _ _ 22 rfl el22 rfl rfl HO0.out HXK.out (oneCell_ints .u8 _) (by omega) (by unfold maxLen; omega) (by simp) ?_; intro A' c' w' hO hg; refine hK _ _ ?_; clear hK K)
      go_ret2
      have hBf := (HB.out.trans (((Below.refl _ _).grown (grownBy_of_alloc hg) (Nat.le_refl _) (by simp [Value.ownBlock])).mono HB.out.size))
      refine ⟨hBf, fun e => (by rw [hf.out] at e; cases e), fun _ => ⟨A', c', rfl, ?_⟩⟩
      exact Own.of_eq (Ownv.mono hO HB.out.size) (Nat.zero_add k) (List.nil_append _)
end Go.Proofs.Ytkagdiejpcfggaa
