/-
  Contract of the specification's Join: the same list as segment.Join. Condition: a list of rows that lies in memory.
-/
import Derived.Test.YtcbbkflnenkpgaaSz
namespace Go.Proofs.Ytcbbkflnenkpgaa
open Go.RowKit CM
set_option linter.unusedVariables false
def RjsInv (W : World) (n b : Nat) (L : List Sv) (i : Value) (wr : World) : Prop := ∃ j : Nat, j ≤ n ∧ i = .int .i64 j ∧ (∀ q s, q < j → L[q]? = some s → s.n = sz b q) ∧ Qt W wr
def RjfInv (f : Nat) (xs : List Int) (i : Value) : Prop := ∃ j : Nat, j ≤ f ∧ i = .int .i64 j ∧ ∀ q, q < j → gi xs q = 0
/-- the bits of the first k blocks without the filler bits -/
def rD (b : Nat) (L : List Sv) (k : Nat) : List Int := (jD b L k).drop (fi b)
def RjInv (w : World) (b LB : Nat) (lay : List Int) (L : List Sv) (out i : Value) (wr : World) : Prop := ∃ (k : Nat) (Ao : Option Addr) (no co : Nat), k ≤ bC b ∧ i = .int .i64 k ∧ out = .slice Ao no co ∧ no = off b k - fi b ∧ Own .u8 5 wr w.heap.size Ao no co (rD b L k) ∧ Blk wr LB 23 (ints8 lay) ∧ Below w.heap.size w wr ∧ (¬ b ≤ 6144 → ∀ q s, q < k → L[q]? = some s → chkErr 2 s.xs = 0)
set_option maxRecDepth 100000 in
theorem rjoin_bad (b : Int) (A : Option Addr) (n c : Nat) (w : World) (h : b < 1 ∨ 79560 < b) : Calls Try.prog 38 #[.int .i64 b, .slice A n c] w (JBad 2 w) := by
  have HP := Lib.hid (fun W => rplan_bad b W h)
  simp only [ints8, zero7, List.map_cons, List.map_nil] at HP
  clear h
  go_enter Try.func38, Try.ntmps38
  go_wp2_with fail
  refine (HP.out _).mono ?_
  rintro e w1 ⟨rfl, hB1⟩
  have HB := Lib.hid (bal hB1 (.cells #[.int .i64 0, .int .i64 0, .int .i64 0, .int .i64 0, .int .i64 0, .int .i64 0, .int .i64 0] 23))
  clear hB1
  go_wp2
  go_ret2
  exact ⟨rfl, HB.out⟩
theorem gi_take (xs : List Int) {j m : Nat} (h : j < m) : gi (xs.take m) j = gi xs j := by simp [gi, List.getD, List.getElem?_take, h]
theorem rD_zero {b : Nat} {L : List Sv} : rD b L 0 = [] := by simp [rD, jD]
theorem rD_one {b : Nat} {L : List Sv} {s : Sv} (h : L[0]? = some s) : rD b L (0 + 1) = (s.xs.take (s.n - ck b)).drop (fi b) := by
  unfold rD; rw [jD_succ h]; simp [jD]
theorem rD_succ {b : Nat} {L : List Sv} {k : Nat} {s : Sv} (h : L[k]? = some s) (hf : fi b ≤ (jD b L k).length) : rD b L (k + 1) = rD b L k ++ s.xs.take (s.n - ck b) := by
  unfold rD; rw [jD_succ h, List.drop_append_of_le_length hf]
theorem bit_of_v {xs : List Int} (h : Byt xs) (hv : ValidB xs = true) : Bit xs := fun x hx => by
  have h1 := (List.all_eq_true.1 hv) x hx
  have h2 := h x hx
  simp only [decide_eq_true_eq] at h1
  omega
set_option maxRecDepth 100000 in
set_option maxHeartbeats 1000000 in
theorem rjoin_any (b : Nat) (A : Option Addr) (n c : Nat) (L : List Sv) (w : World) (h1 : 1 ≤ b) (h2 : b ≤ 79560) (hL : RL w A n c L) (hs : ∀ s ∈ L, s.n ≤ 100000) (hy : ∀ s ∈ L, Byt s.xs) : Calls Try.prog 38 #[.int .i64 b, .slice A n c] w (JPost b L w) := by
  have hbd := hL.o.bd.1
  have HL0 := Lib.hid hL
  have HY := Lib.hid hy
  have HS100 := Lib.hid hs
  have HPL := Lib.hid (fun W => rplan_ok b W h1 h2)
  have HEA := Lib.hid (fun W => reach_ok b W h1 h2)
  have HLY := Lib.hid (show LY b = [(b : Int), (bC b : Int), (lo b : Int), (sh b : Int), (los b : Int), (shs b : Int), (fi b : Int)] from rfl)
  unfold RpPost at HPL
  rw [HLY.out] at HPL
  simp only [ints8, List.map_cons, List.map_nil] at HPL
  clear hL hs hy
  go_enter Try.func38, Try.ntmps38
  go_wp2_with (first | (go_at_call 32; refine (HPL.out _).mono ?_; rintro e w1 ⟨rfl, hB1⟩; have HB1 := Lib.hid hB1; clear hB1))
  have hK := Blk.new w1 (ints8 [(b : Int), (bC b : Int), (lo b : Int), (sh b : Int), (los b : Int), (shs b : Int), (fi b : Int)]) 23 rfl
  have hB2 := bal HB1.out (.cells (ints8 [(b : Int), (bC b : Int), (lo b : Int), (sh b : Int), (los b : Int), (shs b : Int), (fi b : Int)]).toArray 23)
  simp only [ints8, List.map_cons, List.map_nil] at hK hB2
  have HK := Lib.hid hK
  have HB := Lib.hid hB2
  have HRL := Lib.hid (HL0.out.below hB2)
  clear hK hB2 HB1
  generalize w1.alloc (.cells #[.int .i64 b, .int .i64 (bC b : Int), .int .i64 (lo b : Int), .int .i64 (sh b : Int), .int .i64 (los b : Int), .int .i64 (shs b : Int), .int .i64 (fi b : Int)] 23) = W1 at *
  generalize w1.heap.size = LB at *
  go_loop [8] (fun i => JvInv n L i) (fun i => n - (intOf i).toNat)
  case atStart => exact ⟨0, by omega, rfl, fun q s hq => by omega⟩
  case round =>
    obtain ⟨j, hj, rfl, hv⟩ := hrel
    have HV := Lib.hid hv
    clear hv
    by_cases hlt : j < n
    · obtain ⟨s, hgs, hc, hR⟩ := HRL.out.get hlt
      have hix := fun W => Rdv.ix HRL.out.o el55 hlt .i64 W
      have HGS := Lib.hid hgs
      have hbin := Lib.hid (right_any s.A s.n s.c s.xs W1 hR)
      clear hgs
      by_cases hvs : ValidB s.xs = true
      · have HVS := Lib.hid hvs
        rw [hvs] at hbin
        clear hvs
        go_wp2_with (go_at_call 74; refine hbin.out.mono ?_; rintro e w' ⟨rfl, rfl⟩)
        go_round
        case rel => exact ⟨j + 1, by omega, by go_num, fun q t hq hqt => by
          rcases Nat.lt_succ_iff_lt_or_eq.1 hq with hq | rfl
          · exact HV.out q t hq hqt
          · rw [HGS.out] at hqt; cases hqt; exact HVS.out⟩
        case measure => simp [intOf]; omega
      · have hvf : ValidB s.xs = false := by simpa using hvs
        have HJ := Lib.hid (jErr_v (b := b) (jV_f HGS.out hvf))
        rw [hvf] at hbin
        clear hvs hvf
        go_wp2_with (go_at_call 74; refine hbin.out.mono ?_; rintro e w' ⟨rfl, rfl⟩)
        go_ret2
        exact jbad_post ⟨rfl, HB.out⟩ HJ.out (by decide)
    · have hjv := jV_t (L := L) (fun q s hq => HV.out q s (by rw [HRL.out.len] at hq; omega))
      have HJV := Lib.hid hjv
      clear hjv HV
      by_cases hnC : n = bC b
      · subst hnC
        have hC := bC_le h2
        have hCp := @bC_pos b
        go_wp2_with (go_at_call 39; refine (HEA.out _).mono ?_; rintro e w3 ⟨As, cs, rfl, hOs, hB3⟩; have HK3 := Lib.hid (HK.out.below hB3); have HB3 := Lib.hid (HB.out.trans (hB3.mono HB.out.size)); have HS3 := Lib.hid (Own.rd hOs); clear hOs hB3)
        clear hlt hj
        have HRL3 := Lib.hid (HL0.out.below HB3.out)
        go_loopw [10] (fun i wr => RjsInv w3 (bC b) b L i wr) (fun i _ => bC b - (intOf i).toNat)
        case atStart => exact ⟨0, by omega, rfl, fun q s hq => by omega, Qt.refl _⟩
        case round =>
          obtain ⟨j, hj, rfl, hv, q0, rfl⟩ := hrel
          have HV := Lib.hid hv
          clear hv
          by_cases hlt : j < bC b
          · obtain ⟨s, hgs, hc, hR⟩ := HRL3.out.get hlt
            have hix := fun W => Rdv.ix HRL3.out.o el55 hlt .i64 W
            have hiy := fun W => Rdv.ix HS3.out el34 hlt .i64 W
            have hcz := Rd.cell HS3.out hlt
            rw [gi_szs _ _ _ hlt] at hcz
            have HGS := Lib.hid hgs
            clear hgs hR
            by_cases hvs : s.n = sz b j
            · have HVS := Lib.hid hvs
              have hd : ((s.n : Int) != (sz b j : Int)) = false := bne_f (by omega)
              clear hvs
              go_wp2
              go_quiet (fail)
              go_wp2
              go_roundw
              case rel => exact ⟨j + 1, by omega, by go_num, fun q t hq hqt => by
                rcases Nat.lt_succ_iff_lt_or_eq.1 hq with hq | rfl
                · exact HV.out q t hq hqt
                · rw [HGS.out] at hqt; cases hqt; exact HVS.out, by first | exact ⟨_, rfl⟩ | exact Qt.drewN ⟨_, rfl⟩ _⟩
              case measure => simp [intOf]; omega
            · have HJ := Lib.hid (jErr_s (b := b) HJV.out HRL.out.len (jS_f HGS.out hvs))
              have hd : ((s.n : Int) != (sz b j : Int)) = true := bne_t (by omega)
              clear hvs
              go_wp2
              go_quiet (fail)
              go_wp2
              go_ret2
              exact jbad_post ⟨rfl, by first | exact below_drewN HB3.out _ | exact below_drewN (below_drewN HB3.out _) _⟩ HJ.out (by decide)
          · have hjs := jS_t (b := b) (L := L) (fun q s hq => HV.out q s (by rw [HRL.out.len] at hq; omega))
            have HJS := Lib.hid hjs
            have HZ := Lib.hid (show ∀ q s, L[q]? = some s → s.n = sz b q from fun q s hqs => HV.out q s (by have h8 := (List.getElem?_eq_some_iff.1 hqs).1; have h9 := HRL.out.len; omega) hqs)
            have HLEN := Lib.hid (show ∀ s ∈ L, s.xs.length = s.n from fun s hs => Rd.len (HL0.out.r s hs))
            clear hjs HV
            have HK4 := Lib.hid (Blk.drewN HK3.out q0)
            have HB4 := Lib.hid (below_drewN HB3.out q0)
            clear HK3 HB3 HRL3 HS3
            generalize w3.drewN q0 = W4 at *
            have HRL4 := Lib.hid (HL0.out.below HB4.out)
            obtain ⟨s0, hg0, hc0, hR0⟩ := HRL4.out.get (show 0 < bC b by omega)
            have hix0 := fun W => Rdv.ix HRL4.out.o el55 (show 0 < bC b by omega) .i64 W
            rw [show ((0 : Nat) : Int) = 0 from rfl] at hix0
            have HG0 := Lib.hid hg0
            have hs0n := HZ.out 0 s0 hg0
            have hsz := (sz_ge (i := 0) h1)
            simp only [if_true] at hsz
            have hfl := fi_lt h1 h2
            have hf0 : fi b ≤ s0.n := by omega
            have HR0 := Lib.hid hR0
            have HF0 := Lib.hid (show jF b L = No1 (s0.xs.take (fi b)) by unfold jF; rw [hg0])
            have HBI := Lib.hid (show Bit s0.xs from bit_of_v (HY.out s0 (List.mem_of_getElem? hg0)) ((List.all_eq_true.1 HJV.out) s0 (List.mem_of_getElem? hg0)))
            clear hg0 hR0 hs0n hsz
            go_wp2
            clear hlt hj
            go_loop [11] (fun i => RjfInv (fi b) s0.xs i) (fun i => fi b - (intOf i).toNat)
            case atStart => exact ⟨0, by omega, rfl, fun q hq => by omega⟩
            case round =>
              obtain ⟨j, hj, rfl, hv⟩ := hrel
              have HV := Lib.hid hv
              clear hv
              obtain ⟨⟨c0, c1, c2, c3, c4, c5, c6⟩, -⟩ := Blk.seven HK4.out
              by_cases hlt : j < fi b
              · have hcx := Rd.cell HR0.out (show j < s0.n by omega)
                have hixx := fun W => Rdv.ix HR0.out el53 (show j < s0.n by omega) .i64 W
                by_cases hz : gi s0.xs j = 0
                · have HZ0 := Lib.hid hz
                  rw [hz] at hcx
                  clear hz
                  go_wp2
                  go_round
                  case rel => exact ⟨j + 1, by omega, by go_num, fun q hq => by
                    rcases Nat.lt_succ_iff_lt_or_eq.1 hq with hq | rfl
                    · exact HV.out q hq
                    · exact HZ0.out⟩
                  case measure => simp [intOf]; omega
                · have hg1 : gi s0.xs j = 1 := by
                    rcases HBI.out _ (gi_mem s0.xs j (show j < s0.xs.length by have := Rd.len HR0.out; omega)) with h | h
                    · exact absurd h hz
                    · exact h
                  have hjf : jF b L = false := by
                    rw [HF0.out]
                    refine no1_f (j := j) (by have := Rd.len HR0.out; rw [List.length_take]; omega) ?_
                    rw [gi_take _ hlt]; exact hg1
                  have HJ := Lib.hid (jErr_f (b := b) HJV.out HRL.out.len HJS.out hjf)
                  rw [hg1] at hcx
                  clear hz hg1 hjf
                  go_wp2
                  go_ret2
                  exact jbad_post ⟨rfl, HB4.out⟩ HJ.out (by decide)
              · have hjf : jF b L = true := by
                  rw [HF0.out]
                  have hl0 := Rd.len HR0.out
                  refine no1_t (fun q hq => ?_)
                  rw [List.length_take] at hq
                  rw [gi_take _ (show q < fi b by omega), HV.out q (by omega)]
                  decide
                have HJF := Lib.hid hjf
                clear hjf
                go_wp2
                clear c0 c1 c2 c3 c4 c5 c6 hlt hj HV HR0 HF0 hix0 hc0
                have hoff := off_all h1
                clear HBI HG0 HRL4
                go_loopw [12, 13] (fun o i wr => RjInv w b LB (LY b) L o i wr) (fun _ i _ => bC b - (intOf i).toNat)
                case atStart => exact ⟨0, none, 0, 0, by omega, rfl, rfl, by simp [off], by rw [rD_zero]; exact Own.nilv .u8 5 W4 _, HK4.out, HB4.out, fun _ q s hq => by omega⟩
                case round =>
                  obtain ⟨k, Ao, no, co, hk, rfl, rfl, hno, hO4, hL4, hB4, hC4⟩ := hrel
                  unfold LY at hL4
                  simp only [ints8, List.map_cons, List.map_nil] at hL4
                  have HL5 := Lib.hid hL4
                  have HO5 := Lib.hid hO4
                  have HB5 := Lib.hid hB4
                  have HC := Lib.hid hC4
                  have HNO := Lib.hid hno
                  obtain ⟨⟨c0, c1, c2, c3, c4, c5, c6⟩, -⟩ := Blk.seven hL4
                  clear hO4 hL4 hB4 hC4 hno
                  by_cases hlt : k < bC b
                  · obtain ⟨s, hgs, hc, hR⟩ := (HL0.out.below HB5.out).get hlt
                    have hix := fun W => Rdv.ix HL0.out.o el55 hlt .i64 W
                    have hsn := HZ.out k s hgs
                    have hszz := sz_ge (i := k) h1
                    have hmo := off_le (b := b) (show k + 1 ≤ bC b by omega)
                    have hst : off b (k + 1) = off b k + (sz b k - ck b) := rfl
                    have hR0 := HL0.out.r s (List.mem_of_getElem? hgs)
                    have hcap := Rdv.le hR0
                    have hxl := Rd.len hR0
                    have HGS := Lib.hid hgs
                    have hvx : ValidB s.xs = true := (List.all_eq_true.1 HJV.out) s (List.mem_of_getElem? hgs)
                    have HBI := Lib.hid (show Bit s.xs from bit_of_v (HY.out s (List.mem_of_getElem? hgs)) hvx)
                    have hnol : no ≤ 80000 := by have := HNO.out; omega
                    have hjl := jD_len HLEN.out HZ.out k (by rw [HRL.out.len]; omega)
                    have hff : k ≠ 0 → fi b ≤ off b k := fun h => by
                      have h9 := off_le (b := b) (show 1 ≤ k by omega)
                      have h10 : off b 1 = 0 + (sz b 0 - ck b) := rfl
                      have h11 := (sz_ge (i := 0) h1).1
                      simp only [if_true] at h11; omega
                    clear hR hoff hgs
                    by_cases hb6 : b ≤ 6144
                    · have e1 := bC_one hb6
                      have ek : ck b = 0 := by unfold ck; rw [if_pos hb6]
                      obtain ⟨N, hN⟩ : ∃ N, N + fi b = s.n := ⟨s.n - fi b, by have := hszz.1; rw [if_pos (by omega)] at this; omega⟩
                      have hN6 : N ≤ 6144 := by omega
                      have hk0 : ((k : Int) == 0) = true := beq_t (by omega)
                      have hkz : k = 0 := by omega
                      have hdc : decide ((1 : Int) < (bC b : Int)) = false := by simp; omega
                      have hsl : ∀ W, (Instr.sliceAt 53 (.slice s.A s.n s.c) (some (.int .i64 (fi b : Int))) none none).run Try.prog W = .ok (.slice (cut s.A s.c (fi b)) N (s.c - fi b)) W := fun W => by
                        have := Rdv.sll hR0 el53 .i64 (l := fi b) (by omega) W
                        rwa [show s.n - fi b = N by omega] at this
                      have HRN := Lib.hid (show Rd .u8 w (cut s.A s.c (fi b)) N (s.c - fi b) (s.xs.drop (fi b)) by
                        (have h9 := Rd.cut_ hR0 (l := fi b) (m := s.n) (by omega) (Nat.le_refl _); rwa [show s.n - fi b = N by omega, List.take_of_length_le (by omega)] at h9))
                      have HRD := Lib.hid (show rD b L (k + 1) = rD b L k ++ s.xs.drop (fi b) by
                        subst hkz
                        rw [rD_one HGS.out, rD_zero, List.nil_append, ek, Nat.sub_zero, List.take_of_length_le (by omega)])
                      have HAS := Lib.hid (show no + N = off b (k + 1) - fi b by have := HNO.out; subst hkz; have h0 : off b 0 = 0 := rfl; omega)
                      have hsB : s.n ≤ 6144 := by omega
                      have hfs : fi b ≤ s.n := by omega
                      clear hsn hszz hmo hst hxl hjl hff ek hN e1 hvx hkz
                      go_wp2_with (at_builtin; refine list_of rfl fun K hK => wp_app (base := w.heap.size) (.tmp 107) (.tmp 108) 53 rfl el53 rfl rfl HO5.out (Rdv.below HRN.out HB5.out) (oneCell_ints .u8 _) (by omega) (by unfold maxLen; omega) HB5.out.size ?_; intro A8 c8 w8 hO8 hg8; have HL8 := Lib.hid (HL5.out.grown hg8 (blk_ne_row HL5.out HO5.out (by decide))); have HB8 := Lib.hid (HB5.out.grown hg8 HB5.out.size (fun k hk => Ownv.ob' HO5.out hk)); have HO8 := Lib.hid (Own.of_eq (k := .u8) (xs := rD b L k ++ s.xs.drop (fi b)) hO8 rfl (by rw [List.map_append])); clear hO8 hg8; refine hK _ _ ?_; clear hK K)
                      go_roundw
                      case rel => exact ⟨k + 1, A8, no + N, c8, by omega, by go_num, rfl, HAS.out, Own.of_eq HO8.out rfl (by rw [HRD.out]), HL8.out, HB8.out, fun h => absurd hb6 h⟩
                      case measure => simp [intOf]; omega
                    · have e1 := bC_two hb6
                      have ek : ck b = 24 := by unfold ck; rw [if_neg hb6]
                      obtain ⟨N, hN⟩ : ∃ N, N + 24 = s.n := ⟨s.n - 24, by have := hszz.1; omega⟩
                      have hN6 : N ≤ 6144 := by omega
                      have hdc : decide ((1 : Int) < (bC b : Int)) = true := by simp; omega
                      have hNI : (s.n : Int) - 24 = (N : Int) := by omega
                      have hsl : ∀ W, (Instr.sliceAt 53 (.slice s.A s.n s.c) none (some (.int .i64 (N : Int))) none).run Try.prog W = .ok (.slice s.A N s.c) W := fun W => Rdv.slh hR0 el53 .i64 (by omega) W
                      have hsl2 : ∀ W, (Instr.sliceAt 53 (.slice s.A s.n s.c) (some (.int .i64 (N : Int))) none none).run Try.prog W = .ok (.slice (cut s.A s.c N) 24 (s.c - N)) W := fun W => by
                        have := Rdv.sll hR0 el53 .i64 (l := N) (by omega) W
                        rwa [show s.n - N = 24 by omega] at this
                      have HRN := Lib.hid (show Rd .u8 w s.A N s.c (s.xs.take N) from Rd.upto hR0 (by omega))
                      have HR24 := Lib.hid (show Rd .u8 w (cut s.A s.c N) 24 (s.c - N) (s.xs.drop N) by
                        have := Rd.cut_ hR0 (l := N) (m := s.n) (by omega) (Nat.le_refl _)
                        rwa [show s.n - N = 24 by omega, List.take_of_length_le (by omega)] at this)
                      have HBN := Lib.hid (bit_take N HBI.out)
                      have HCK := Lib.hid (fun W (hb : Below w.heap.size w W) => rchk_any s.A N s.c (s.xs.take N) W (Rdv.below HRN.out hb) HBN.out (by omega))
                      have hch : chkErr 2 s.xs = 0 ↔ crcSum 2 (s.xs.take N) = s.xs.drop N := by
                        unfold chkErr
                        rw [show sLen 2 = 24 from rfl, if_neg (by decide), if_pos hvx, if_neg (by omega), hxl, show s.n - 24 = N by omega]
                        split
                        · rename_i h; exact ⟨fun _ => h, fun _ => rfl⟩
                        · rename_i h; exact ⟨fun h9 => absurd h9 (by decide), fun h9 => absurd h9 h⟩
                      have hse := strEq (byt_bit (bit_sum (k := 2) (by decide) HBN.out)) (byt_bit (bit_drop N HBI.out))
                      have hsB : s.n ≤ 6144 := by omega
                      have HNS := Lib.hid (show s.n - ck b = N by omega)
                      have HAS := Lib.hid (show off b (k + 1) = off b k + N by omega)
                      have HRS := Lib.hid (show k ≠ 0 → rD b L (k + 1) = rD b L k ++ s.xs.take N from fun h => by rw [rD_succ HGS.out (by rw [hjl]; exact hff h), HNS.out])
                      have HR1 := Lib.hid (show k = 0 → rD b L (k + 1) = rD b L k ++ (s.xs.take N).drop (fi b) from fun h => by subst h; rw [rD_one HGS.out, rD_zero, List.nil_append, HNS.out])
                      have HFF := Lib.hid hff
                      have HFN := Lib.hid (show k = 0 → fi b ≤ N from fun h => by have := hszz.1; rw [if_pos h] at this; omega)
                      clear hsn hszz hmo hst hxl hjl hff ek hN e1 hvx
                      by_cases hce : crcSum 2 (s.xs.take N) = s.xs.drop N
                      · have HCH := Lib.hid (hch.2 hce)
                        rw [decide_eq_true hce] at hse
                        have HC1 := Lib.hid (fun (W : World) (A' : Option Addr) (c' : Nat) (h : Rd .u8 W A' 24 c' (crcSum 2 (s.xs.take N))) => conv_rd h)
                        have HC2 := Lib.hid (fun (W : World) (hb : Below w.heap.size w W) => conv_rd (Rdv.below HR24.out hb))
                        clear hch hce
                        generalize strOfNums (crcSum 2 (s.xs.take N)) = S1 at *
                        generalize strOfNums (s.xs.drop N) = S2 at *
                        have mkS : ∀ W', Below w.heap.size w W' → (fun W' => W'.cell? (adr A k) = some (.slice s.A s.n s.c) ∧ (convert 53 9 (.slice (cut s.A s.c N) 24 (s.c - N))).run Try.prog W' = .ok (.string S2) W') W' := fun W' hb => by
                          obtain ⟨s', h', hc', -⟩ := (HL0.out.below hb).get hlt
                          rw [HGS.out] at h'; cases h'
                          exact ⟨hc', HC2.out _ hb⟩
                        go_wp2
                        refine wp_nopanic ?_
                        have hS0 : (fun W' => W'.cell? (adr A k) = some (.slice s.A s.n s.c) ∧ (convert 53 9 (.slice (cut s.A s.c N) 24 (s.c - N))).run Try.prog W' = .ok (.string S2) W') wr.drew := mkS _ HB5.out.drew
                        refine P_start (fun W' => W'.cell? (adr A k) = some (.slice s.A s.n s.c) ∧ (convert 53 9 (.slice (cut s.A s.c N) 24 (s.c - N))).run Try.prog W' = .ok (.string S2) W') 11 12 #[false, false, false, false, false, false, false, false, false, false, false, false] (by kernel_rfl) (by kernel_rfl) (by kernel_rfl) ?_
                        refine P_takeW 0 89 (.slice s.A N s.c) #[true, false, false, false, false, false, false, false, false, false, false, false] rfl rfl (by kernel_rfl) (by kernel_rfl) (by kernel_rfl) (by kernel_rfl) (by decide) (fun _ _ _ h => h) (Or.inl ⟨by rfl, fun W hS => by go_simp⟩) hS0 ?_
                        simp only [List.setIfInBounds_toArray, List.set_cons_zero, List.set_cons_succ]
                        refine P_takeW 3 92 (.slice A (bC b) c) #[true, false, false, true, false, false, false, false, false, false, false, false] rfl rfl (by kernel_rfl) (by kernel_rfl) (by kernel_rfl) (by kernel_rfl) (by decide) (fun _ _ _ h => h) (Or.inl ⟨by rfl, fun W hS => by go_simp⟩) hS0 ?_
                        simp only [List.setIfInBounds_toArray, List.set_cons_zero, List.set_cons_succ]
                        refine P_takeW 4 93 (.int .i64 (k : Int)) #[true, false, false, true, true, false, false, false, false, false, false, false] rfl rfl (by kernel_rfl) (by kernel_rfl) (by kernel_rfl) (by kernel_rfl) (by decide) (fun _ _ _ h => h) (Or.inl ⟨by rfl, fun W hS => by go_simp⟩) hS0 ?_
                        simp only [List.setIfInBounds_toArray, List.set_cons_zero, List.set_cons_succ]
                        refine P_takeW 5 94 (.pointer (some (adr A k))) #[true, false, false, true, true, true, false, false, false, false, false, false] rfl rfl (by kernel_rfl) (by kernel_rfl) (by kernel_rfl) (by kernel_rfl) (by decide) (fun _ _ _ h => h) (Or.inl ⟨by rfl, fun W hS => by go_simp⟩) hS0 ?_
                        simp only [List.setIfInBounds_toArray, List.set_cons_zero, List.set_cons_succ]
                        refine P_takeW 7 96 (.slice s.A N s.c) #[true, false, false, true, true, true, false, true, false, false, false, false] rfl rfl (by kernel_rfl) (by kernel_rfl) (by kernel_rfl) (by kernel_rfl) (by decide) (fun _ _ _ h => h) (Or.inl ⟨by rfl, fun W hS => by go_simp⟩) hS0 ?_
                        simp only [List.setIfInBounds_toArray, List.set_cons_zero, List.set_cons_succ]
                        refine P_takeW 8 97 (.int .i64 (N : Int)) #[true, false, false, true, true, true, false, true, true, false, false, false] rfl rfl (by kernel_rfl) (by kernel_rfl) (by kernel_rfl) (by kernel_rfl) (by decide) (fun _ _ _ h => h) (Or.inl ⟨by rfl, fun W hS => by go_simp⟩) hS0 ?_
                        simp only [List.setIfInBounds_toArray, List.set_cons_zero, List.set_cons_succ]
                        refine P_takeT 6 95 (.slice s.A s.n s.c) #[true, false, false, true, true, true, true, true, true, false, false, false] [10, 9] rfl rfl (by kernel_rfl) (by kernel_rfl) (by kernel_rfl) (by kernel_rfl) (by kernel_rfl) (by kernel_rfl) (by kernel_rfl) (by decide) (fun _ _ _ h => h) (Or.inl ⟨by rfl, fun W hS => by obtain ⟨s0, s1⟩ := hS; go_simp⟩) hS0 ?_
                        simp only [List.setIfInBounds_toArray, List.set_cons_zero, List.set_cons_succ]
                        refine P_takeW 9 98 (.slice (cut s.A s.c N) 24 (s.c - N)) #[true, false, false, true, true, true, true, true, true, true, false, false] rfl rfl (by kernel_rfl) (by kernel_rfl) (by kernel_rfl) (by kernel_rfl) (by decide) (fun _ _ _ h => h) (Or.inl ⟨by rfl, fun W hS => by go_simp⟩) hS0 ?_
                        simp only [List.setIfInBounds_toArray, List.set_cons_zero, List.set_cons_succ]
                        refine P_take 10 99 (.string S2) #[true, false, false, true, true, true, true, true, true, true, true, false] rfl rfl (by kernel_rfl) (by kernel_rfl) (by kernel_rfl) (by kernel_rfl) (by kernel_rfl) (by kernel_rfl) (by decide) (fun _ _ _ h => h) (Or.inl ⟨by rfl, fun W hS => by obtain ⟨s0, s1⟩ := hS; go_simp⟩) hS0 ?_
                        simp only [List.setIfInBounds_toArray, List.set_cons_zero, List.set_cons_succ]
                        refine P_oneS 1 #[true, true, false, true, true, true, true, true, true, true, true, false] rfl (by kernel_rfl) (by kernel_rfl) rfl (fun K hK => ?_)
                        go_simp
                        refine (HCK.out _ HB5.out.drew).mono ?_
                        rintro e w6 ⟨A6, c6x, rfl, hO6, hB6⟩
                        have HR6 := Lib.hid (Own.rd hO6)
                        have HL6 := Lib.hid ((Blk.drew HL5.out).below hB6)
                        have HO6 := Lib.hid (Ownv.below (Ownv.drew HO5.out) hB6)
                        have HB6 := Lib.hid (HB5.out.drew.trans (hB6.mono HB5.out.drew.size))
                        have hS1 := mkS w6 HB6.out
                        refine hK _ _ hS1 ?_
                        clear hK K hB6 hO6
                        have hcv := HC1.out _ _ _ HR6.out
                        refine P_oneS 2 #[true, true, true, true, true, true, true, true, true, true, true, false] rfl (by kernel_rfl) (by kernel_rfl) rfl (fun K hK => ?_)
                        go_simp
                        refine hK _ _ hS1 ?_
                        clear hK K
                        refine P_one 11 #[true, true, true, true, true, true, true, true, true, true, true, true] rfl (by kernel_rfl) (by kernel_rfl) rfl (by kernel_rfl) (fun K hK => ?_)
                        go_simp
                        refine hK _ _ ?_
                        clear hK K
                        refine P_done (by kernel_rfl) ?_ _
                        refine noPanic_normal ?_
                        clear hS0 hS1 mkS
                        obtain ⟨⟨c0, c1, c2, c3, c4, c5, c6⟩, -⟩ := Blk.seven HL6.out
                        by_cases hkz : k = 0
                        · have hk0 : ((k : Int) == 0) = true := beq_t (by omega)
                          have hfn := HFN.out hkz
                          obtain ⟨M, hM⟩ : ∃ M, M + fi b = N := ⟨N - fi b, by omega⟩
                          have hsl3 : ∀ W, (Instr.sliceAt 53 (.slice s.A N s.c) (some (.int .i64 (fi b : Int))) none none).run Try.prog W = .ok (.slice (cut s.A s.c (fi b)) M (s.c - fi b)) W := fun W => by
                            have := Rdv.sll HRN.out el53 .i64 (l := fi b) (by omega) W
                            rwa [show N - fi b = M by omega] at this
                          have HRM := Lib.hid (show Rd .u8 w (cut s.A s.c (fi b)) M (s.c - fi b) ((s.xs.take N).drop (fi b)) by
                            have := Rd.cut_ HRN.out (l := fi b) (m := N) (by omega) (Nat.le_refl _)
                            rwa [show N - fi b = M by omega, List.take_of_length_le (by have := Rd.len HRN.out; omega)] at this)
                          have HRD := Lib.hid (HR1.out hkz)
                          have HAT := Lib.hid (show no + M = off b (k + 1) - fi b by have := HNO.out; have := HAS.out; subst hkz; have h0 : off b 0 = 0 := rfl; omega)
                          have hM6 : M ≤ 6144 := by omega
                          clear hM hkz
                          go_wp2_with (at_builtin; refine list_of rfl fun K hK => wp_app (base := w.heap.size) (.tmp 107) (.tmp 108) 53 rfl el53 rfl rfl HO6.out (Rdv.below HRM.out HB6.out) (oneCell_ints .u8 _) (by omega) (by unfold maxLen; omega) HB6.out.size ?_; intro A8 c8 w8 hO8 hg8; have HL8 := Lib.hid (HL6.out.grown hg8 (blk_ne_row HL6.out HO6.out (by decide))); have HB8 := Lib.hid (HB6.out.grown hg8 HB6.out.size (fun k hk => Ownv.ob' HO6.out hk)); have HO8 := Lib.hid (Own.of_eq (k := .u8) (xs := rD b L k ++ (s.xs.take N).drop (fi b)) hO8 rfl (by rw [List.map_append])); clear hO8 hg8; refine hK _ _ ?_; clear hK K)
                          go_roundw
                          case rel => exact ⟨k + 1, A8, no + M, c8, by omega, by go_num, rfl, HAT.out, Own.of_eq HO8.out rfl (by rw [HRD.out]), HL8.out, HB8.out, fun _ q t hq hqt => by
                            rcases Nat.lt_succ_iff_lt_or_eq.1 hq with hq | rfl
                            · exact HC.out hb6 q t hq hqt
                            · rw [HGS.out] at hqt; cases hqt; exact HCH.out⟩
                          case measure => simp [intOf]; omega
                        · have hk0 : ((k : Int) == 0) = false := beq_f (by omega)
                          have HRD := Lib.hid (HRS.out hkz)
                          have HAT := Lib.hid (show no + N = off b (k + 1) - fi b by have := HNO.out; have := HAS.out; have := HFF.out hkz; omega)
                          clear hkz
                          go_wp2_with (at_builtin; refine list_of rfl fun K hK => wp_app (base := w.heap.size) (.tmp 107) (.tmp 108) 53 rfl el53 rfl rfl HO6.out (Rdv.below HRN.out HB6.out) (oneCell_ints .u8 _) (by omega) (by unfold maxLen; omega) HB6.out.size ?_; intro A8 c8 w8 hO8 hg8; have HL8 := Lib.hid (HL6.out.grown hg8 (blk_ne_row HL6.out HO6.out (by decide))); have HB8 := Lib.hid (HB6.out.grown hg8 HB6.out.size (fun k hk => Ownv.ob' HO6.out hk)); have HO8 := Lib.hid (Own.of_eq (k := .u8) (xs := rD b L k ++ s.xs.take N) hO8 rfl (by rw [List.map_append])); clear hO8 hg8; refine hK _ _ ?_; clear hK K)
                          go_roundw
                          case rel => exact ⟨k + 1, A8, no + N, c8, by omega, by go_num, rfl, HAT.out, Own.of_eq HO8.out rfl (by rw [HRD.out]), HL8.out, HB8.out, fun _ q t hq hqt => by
                            rcases Nat.lt_succ_iff_lt_or_eq.1 hq with hq | rfl
                            · exact HC.out hb6 q t hq hqt
                            · rw [HGS.out] at hqt; cases hqt; exact HCH.out⟩
                          case measure => simp [intOf]; omega
                      · have HJ := Lib.hid (jErr_c (b := b) HJV.out HRL.out.len HJS.out HJF.out hb6 (jC_f HGS.out (fun h9 => hce (hch.1 h9))))
                        rw [decide_eq_false hce] at hse
                        have HC1 := Lib.hid (fun (W : World) (A' : Option Addr) (c' : Nat) (h : Rd .u8 W A' 24 c' (crcSum 2 (s.xs.take N))) => conv_rd h)
                        have HC2 := Lib.hid (fun (W : World) (hb : Below w.heap.size w W) => conv_rd (Rdv.below HR24.out hb))
                        clear hch hce
                        generalize strOfNums (crcSum 2 (s.xs.take N)) = S1 at *
                        generalize strOfNums (s.xs.drop N) = S2 at *
                        have mkS : ∀ W', Below w.heap.size w W' → (fun W' => W'.cell? (adr A k) = some (.slice s.A s.n s.c) ∧ (convert 53 9 (.slice (cut s.A s.c N) 24 (s.c - N))).run Try.prog W' = .ok (.string S2) W') W' := fun W' hb => by
                          obtain ⟨s', h', hc', -⟩ := (HL0.out.below hb).get hlt
                          rw [HGS.out] at h'; cases h'
                          exact ⟨hc', HC2.out _ hb⟩
                        go_wp2
                        refine wp_nopanic ?_
                        have hS0 : (fun W' => W'.cell? (adr A k) = some (.slice s.A s.n s.c) ∧ (convert 53 9 (.slice (cut s.A s.c N) 24 (s.c - N))).run Try.prog W' = .ok (.string S2) W') wr.drew := mkS _ HB5.out.drew
                        refine P_start (fun W' => W'.cell? (adr A k) = some (.slice s.A s.n s.c) ∧ (convert 53 9 (.slice (cut s.A s.c N) 24 (s.c - N))).run Try.prog W' = .ok (.string S2) W') 11 12 #[false, false, false, false, false, false, false, false, false, false, false, false] (by kernel_rfl) (by kernel_rfl) (by kernel_rfl) ?_
                        refine P_takeW 0 89 (.slice s.A N s.c) #[true, false, false, false, false, false, false, false, false, false, false, false] rfl rfl (by kernel_rfl) (by kernel_rfl) (by kernel_rfl) (by kernel_rfl) (by decide) (fun _ _ _ h => h) (Or.inl ⟨by rfl, fun W hS => by go_simp⟩) hS0 ?_
                        simp only [List.setIfInBounds_toArray, List.set_cons_zero, List.set_cons_succ]
                        refine P_takeW 3 92 (.slice A (bC b) c) #[true, false, false, true, false, false, false, false, false, false, false, false] rfl rfl (by kernel_rfl) (by kernel_rfl) (by kernel_rfl) (by kernel_rfl) (by decide) (fun _ _ _ h => h) (Or.inl ⟨by rfl, fun W hS => by go_simp⟩) hS0 ?_
                        simp only [List.setIfInBounds_toArray, List.set_cons_zero, List.set_cons_succ]
                        refine P_takeW 4 93 (.int .i64 (k : Int)) #[true, false, false, true, true, false, false, false, false, false, false, false] rfl rfl (by kernel_rfl) (by kernel_rfl) (by kernel_rfl) (by kernel_rfl) (by decide) (fun _ _ _ h => h) (Or.inl ⟨by rfl, fun W hS => by go_simp⟩) hS0 ?_
                        simp only [List.setIfInBounds_toArray, List.set_cons_zero, List.set_cons_succ]
                        refine P_takeW 5 94 (.pointer (some (adr A k))) #[true, false, false, true, true, true, false, false, false, false, false, false] rfl rfl (by kernel_rfl) (by kernel_rfl) (by kernel_rfl) (by kernel_rfl) (by decide) (fun _ _ _ h => h) (Or.inl ⟨by rfl, fun W hS => by go_simp⟩) hS0 ?_
                        simp only [List.setIfInBounds_toArray, List.set_cons_zero, List.set_cons_succ]
                        refine P_takeW 7 96 (.slice s.A N s.c) #[true, false, false, true, true, true, false, true, false, false, false, false] rfl rfl (by kernel_rfl) (by kernel_rfl) (by kernel_rfl) (by kernel_rfl) (by decide) (fun _ _ _ h => h) (Or.inl ⟨by rfl, fun W hS => by go_simp⟩) hS0 ?_
                        simp only [List.setIfInBounds_toArray, List.set_cons_zero, List.set_cons_succ]
                        refine P_takeW 8 97 (.int .i64 (N : Int)) #[true, false, false, true, true, true, false, true, true, false, false, false] rfl rfl (by kernel_rfl) (by kernel_rfl) (by kernel_rfl) (by kernel_rfl) (by decide) (fun _ _ _ h => h) (Or.inl ⟨by rfl, fun W hS => by go_simp⟩) hS0 ?_
                        simp only [List.setIfInBounds_toArray, List.set_cons_zero, List.set_cons_succ]
                        refine P_takeT 6 95 (.slice s.A s.n s.c) #[true, false, false, true, true, true, true, true, true, false, false, false] [10, 9] rfl rfl (by kernel_rfl) (by kernel_rfl) (by kernel_rfl) (by kernel_rfl) (by kernel_rfl) (by kernel_rfl) (by kernel_rfl) (by decide) (fun _ _ _ h => h) (Or.inl ⟨by rfl, fun W hS => by obtain ⟨s0, s1⟩ := hS; go_simp⟩) hS0 ?_
                        simp only [List.setIfInBounds_toArray, List.set_cons_zero, List.set_cons_succ]
                        refine P_takeW 9 98 (.slice (cut s.A s.c N) 24 (s.c - N)) #[true, false, false, true, true, true, true, true, true, true, false, false] rfl rfl (by kernel_rfl) (by kernel_rfl) (by kernel_rfl) (by kernel_rfl) (by decide) (fun _ _ _ h => h) (Or.inl ⟨by rfl, fun W hS => by go_simp⟩) hS0 ?_
                        simp only [List.setIfInBounds_toArray, List.set_cons_zero, List.set_cons_succ]
                        refine P_take 10 99 (.string S2) #[true, false, false, true, true, true, true, true, true, true, true, false] rfl rfl (by kernel_rfl) (by kernel_rfl) (by kernel_rfl) (by kernel_rfl) (by kernel_rfl) (by kernel_rfl) (by decide) (fun _ _ _ h => h) (Or.inl ⟨by rfl, fun W hS => by obtain ⟨s0, s1⟩ := hS; go_simp⟩) hS0 ?_
                        simp only [List.setIfInBounds_toArray, List.set_cons_zero, List.set_cons_succ]
                        refine P_oneS 1 #[true, true, false, true, true, true, true, true, true, true, true, false] rfl (by kernel_rfl) (by kernel_rfl) rfl (fun K hK => ?_)
                        go_simp
                        refine (HCK.out _ HB5.out.drew).mono ?_
                        rintro e w6 ⟨A6, c6x, rfl, hO6, hB6⟩
                        have HR6 := Lib.hid (Own.rd hO6)
                        have HL6 := Lib.hid ((Blk.drew HL5.out).below hB6)
                        have HO6 := Lib.hid (Ownv.below (Ownv.drew HO5.out) hB6)
                        have HB6 := Lib.hid (HB5.out.drew.trans (hB6.mono HB5.out.drew.size))
                        have hS1 := mkS w6 HB6.out
                        refine hK _ _ hS1 ?_
                        clear hK K hB6 hO6
                        have hcv := HC1.out _ _ _ HR6.out
                        refine P_oneS 2 #[true, true, true, true, true, true, true, true, true, true, true, false] rfl (by kernel_rfl) (by kernel_rfl) rfl (fun K hK => ?_)
                        go_simp
                        refine hK _ _ hS1 ?_
                        clear hK K
                        refine P_one 11 #[true, true, true, true, true, true, true, true, true, true, true, true] rfl (by kernel_rfl) (by kernel_rfl) rfl (by kernel_rfl) (fun K hK => ?_)
                        go_simp
                        refine hK _ _ ?_
                        clear hK K
                        refine P_done (by kernel_rfl) ?_ _
                        refine noPanic_normal ?_
                        clear hS0 hS1 mkS
                        go_wp2
                        go_ret2
                        exact jbad_post ⟨rfl, HB6.out⟩ HJ.out (by decide)
                  · obtain rfl : k = bC b := by omega
                    have HJ := Lib.hid (jErr_0 (b := b) HJV.out HRL.out.len HJS.out HJF.out (fun h => jC_t (fun q s hq hqs => HC.out h q s (by have := HRL.out.len; omega) hqs)))
                    go_wp2
                    go_ret2
                    refine ⟨Ao, no, co, by rw [HJ.out]; rfl, ?_, HB5.out⟩
                    unfold jRes
                    rw [if_pos HJ.out, HRL.out.len]
                    exact Own.rd HO5.out
      · have HJ := Lib.hid (jErr_l (b := b) HJV.out (by rw [HRL.out.len]; exact hnC))
        have hd : ((bC b : Int) != (n : Int)) = true := bne_t (by omega)
        go_wp2_with (go_at_call 39; refine (HEA.out _).mono ?_; rintro e w3 ⟨As, cs, rfl, hOs, hB3⟩; have HB3 := Lib.hid (HB.out.trans (hB3.mono HB.out.size)); clear hOs hB3)
        go_ret2
        exact jbad_post ⟨rfl, HB3.out⟩ HJ.out (by decide)
end Go.Proofs.Ytcbbkflnenkpgaa
