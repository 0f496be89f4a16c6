/-
  The walk of the theorem of the chapter: Join gives back the bits out of the code words. Condition: none.
-/
import Derived.Test.YtcbbkflnenkpgaaGreatWc
import Derived.Test.YtcbbkflnenkpgaaGreatWd
namespace Go.Proofs.YtcbbkflnenkpgaaGreat
open Go.RowKit CM
set_option linter.unusedVariables false
theorem flip_u8 {v : Int} (h : v = 0 ∨ v = 1) : IntKind.u8.wrap (1 - v) = 1 - v := by rcases h with rfl | rfl <;> decide
theorem bD_le {xs : List Int} : (∀ d ∈ bD xs, d.length ≤ 6168) ∧ (bD xs).length ≤ 13 := by
  unfold bD
  split
  · exact sD_le
  · exact ⟨by simp, by simp⟩
def BkI (W : World) (C : Nat) (D : List (List Int)) (out i : Value) (wr : World) : Prop := ∃ (j : Nat) (A : Option Addr) (c : Nat) (L : List Sv), j ≤ C ∧ i = .int .i64 j ∧ out = .slice A L.length c ∧ L.length = j ∧ BL wr W.heap.size A c L ∧ L.map (·.xs) = D.take j ∧ Below W.heap.size W wr
/-- what is known of the rows of words -/
structure WdS (xs : List Int) (L : List Sv) : Prop where
  e : bE xs = 0
  x : L.map (·.xs) = (bD xs).map Tu.encW
theorem WdS.get {xs : List Int} {L : List Sv} (h : WdS xs L) (hy : Byt xs) {j : Nat} {s : Sv} (hs : L[j]? = some s) (hl : s.xs.length = s.n) : ∃ d : List Int, (bD xs)[j]? = some d ∧ s.xs.take d.length = d ∧ s.n = 3 * (d.length + 4) ∧ 40 ≤ d.length ∧ d.length ≤ 6144 ∧ Bit d := by
  have h1 : (L.map (·.xs))[j]? = some s.xs := by rw [List.getElem?_map, hs]; rfl
  rw [h.x, List.getElem?_map] at h1
  obtain ⟨d, hd, he⟩ := Option.map_eq_some_iff.1 h1
  have hmem := List.mem_of_getElem? hd
  have hD : bD xs = sD (xs ++ crcSum 1 xs) := by unfold bD; rw [if_pos h.e]
  rw [hD] at hmem
  have hv := sD_vk d hmem
  have hvb : ValidB xs = true := by
    have h9 := h.e
    unfold bE at h9
    split at h9
    · cases h9
    · split at h9
      · assumption
      · cases h9
  have hbit := bit_of (fun x hx => (hy x hx).1) hvb
  have hbd : Bit d := by
    unfold sD at hmem
    split at hmem
    · exact segs_bit (bit_app (bit_zeros _) (bit_app hbit (bit_sum (by decide) hbit))) d hmem
    · simp at hmem
  obtain ⟨t1, t2⟩ := encW_take hbd hv
  have hv' := hv
  unfold Tu.validK at hv'
  rw [decide_eq_true_iff] at hv'
  refine ⟨d, hd, by rw [← he]; exact t1, by rw [← hl, ← he]; exact t2, by omega, by omega, hbd⟩
theorem bE_zero {xs : List Int} (h : bE xs = 0) : 1 ≤ xs.length ∧ xs.length ≤ 79536 ∧ ValidB xs = true := by
  unfold bE at h
  split at h
  · cases h
  · split at h
    · rename_i h1 h2; exact ⟨by omega, by omega, h2⟩
    · cases h
theorem sg_of {xs : List Int} {L : List Sv} (he : bE xs = 0) (hy : Byt xs) (hl : L.map (·.xs) = bD xs) (hn : ∀ s ∈ L, s.xs.length = s.n) : SG (xs.length + 24) (List.replicate (fi (xs.length + 24)) 0 ++ (xs ++ crcSum 1 xs)) L := by
  obtain ⟨h1, h2, h3⟩ := bE_zero he
  have hbit := bit_of (fun x hx => (hy x hx).1) h3
  have hcl : (crcSum 1 xs).length = 24 := by rw [crcSum_len]; rfl
  have hcb : Bit (crcSum 1 xs) := bit_sum (by decide) hbit
  have hll : (xs ++ crcSum 1 xs).length = xs.length + 24 := by rw [List.length_append, hcl]
  have hs : sE (xs ++ crcSum 1 xs) = 0 := by unfold sE; rw [hll, if_neg (by omega), if_pos (bit_valid (bit_app hbit hcb))]
  refine ⟨?_, hn, by omega, ?_, bit_app (bit_zeros _) (bit_app hbit hcb)⟩
  · rw [hl]; unfold bD; rw [if_pos he]; unfold sD; rw [if_pos hs, hll]
  · rw [off_all (by omega), List.length_append, List.length_replicate, hll]; omega
set_option maxRecDepth 100000 in
set_option maxHeartbeats 4000000 in
theorem back_law (l s a y bk ap : Int) (w : World) (hyy : 0 ≤ y ∧ y < 256) (hbk : -9223372036854775808 ≤ bk ∧ bk ≤ 9223372036854775807) (hap : -9223372036854775808 ≤ ap ∧ ap ≤ 9223372036854775807) :
    Calls Tryz.prog 6 #[.agg #[.int .i64 l, .int .u32 s, .int .i64 a, .int .u8 y], .int .i64 bk, .int .i64 ap] w fun e w' => e = .returned (.bool true) ∧ Below w.heap.size w w' := by
  have HP := Lib.hid (fun W => bits15_any l s a y W hyy)
  have hc0 := Blk.new w [.int .i64 l, .int .u32 s, .int .i64 a, .int .u8 y] 24 rfl
  have HB0 := Lib.hid (show Below w.heap.size w (w.alloc (.cells [.int .i64 l, .int .u32 s, .int .i64 a, .int .u8 y].toArray 24)) from (Below.refl _ _).alloc (Nat.le_refl _) _)
  clear hyy
  go_enter Tryz.func6, Tryz.ntmps6
  go_wp2_with (first
    | (refine ldrow (cs := [.int .i64 l, .int .u32 s, .int .i64 a, .int .u8 y]) rfl 24 (.tmp 3) rfl rfl hc0 _ Tryz.underlying24 rfl (by kernel_rfl) ?_)
    | (go_at_call 7; refine (HP.out _).mono ?_; rintro e w1 ⟨m, A1, xs, hm, rfl, hO1, hby, hB1⟩; have HO1 := Lib.hid (Own.rd hO1); have HBY1 := Lib.hid hby; have HB1 := Lib.hid (HB0.out.trans (hB1.mono HB0.out.size)); clear hO1 hby hB1 hc0))
  refine (words_any A1 m m xs w1 HO1.out HBY1.out (by omega)).mono ?_
  rintro e w3 ⟨A3, n3, c3, L3, rfl, hn3, hBL3, hxs3, hB3⟩
  have hml := HO1.out.len
  have HO13 := Lib.hid (Rdv.below HO1.out hB3)
  have HL3 : Hid (RL w3 A3 n3 c3 L3) := Lib.hid (by rw [hn3]; exact hBL3.rl)
  have HX3 := Lib.hid hxs3
  have HB3 := Lib.hid (HB1.out.trans (hB3.mono HB1.out.size))
  clear hBL3 hxs3 hB3 HO1 hn3
  by_cases hE : bE xs = 0
  · have HWS : Hid (WdS xs L3) := Lib.hid ⟨hE, HX3.out⟩
    rw [hE]
    have hl3 := HL3.out.len
    have hfew : n3 ≤ 13 := by
      have h1 := (bD_le (xs := xs)).2
      have h2 := congrArg List.length HX3.out
      simp only [List.length_map] at h2
      omega
    have HN3 : Hid ((bD xs).length = n3) := Lib.hid (by have h2 := congrArg List.length HX3.out; simp only [List.length_map] at h2; omega)
    have HE := Lib.hid hE
    clear hE HB0 HB1
    go_wp2_with fail
    go_loopw [10, 11] (fun out i wr => BkI w3 n3 (bD xs) out i wr) (fun _ i _ => n3 - (intOf i).toNat)
    case atStart => exact ⟨0, none, 0, [], by omega, rfl, rfl, rfl, BL.nil w3 _, rfl, Below.refl _ _⟩
    case round =>
      obtain ⟨j, A, c2, L, hj, rfl, rfl, hlen, hBL, hxs, hB⟩ := hrel
      have HBL := Lib.hid hBL
      have HX := Lib.hid hxs
      have HB := Lib.hid hB
      subst hlen
      by_cases hlt : L.length < n3
      · have hRL := HL3.out.below hB
        obtain ⟨s', hs, hc, hR⟩ := hRL.get hlt
        have hix := fun W => Rdv.ix hRL.o el55 (j := L.length) hlt .i64 W
        obtain ⟨d, hd, hdt, hdn, hd1, hd2, hdb⟩ := HWS.out.get HBY1.out hs hR.len
        have hcap := Rdv.le hR
        have hq1 : IntKind.i64.wrap ((s'.n : Int).tdiv 3) = (d.length : Int) + 4 := by rw [Int.tdiv_eq_ediv_of_nonneg (by omega), IntKind.wrap_i64]; omega
        have hq2 : (s'.n : Int) / 3 = (d.length : Int) + 4 := by omega
        have hq3 : IntKind.i64.wrap ((d.length : Int) + 4 - 4) = (d.length : Int) := by rw [IntKind.wrap_i64]; omega
        have hq4 : IntKind.i64.wrap ((d.length : Int) + 4) = (d.length : Int) + 4 := by rw [IntKind.wrap_i64]; omega
        have hq5 : (d.length : Int) + 4 - 4 = (d.length : Int) := by omega
        have hsl := fun W => Rdv.slh hR el53 .i64 (m := d.length) (by omega) W
        have hRu := Rd.upto hR (m := d.length) (by omega)
        rw [hdt] at hRu
        have hcl := Lib.hid (own8_any s'.A d.length s'.c d wr hRu (by omega))
        have HD := Lib.hid hd
        have hge40 : decide ((d.length : Int) < 40) = false := by simp; omega
        have HD1 := Lib.hid hd1
        clear hBL hxs hR hRL hs hd hdt hdn hdb hRu hd1
        obtain ⟨K, hK⟩ : ∃ K, K = d.length := ⟨_, rfl⟩
        rw [← hK] at hcl hq1 hq2 hq3 hq4 hq5 hsl hge40 hd2
        have HK := Lib.hid hK
        have hKge : 40 ≤ K := by rw [hK]; exact HD1.out
        clear hK
        go_wp2_with (first
          | (go_at_call 8; refine hcl.out.mono ?_; rintro e w2 ⟨A', c', rfl, hO', hB'⟩; have HO' := Lib.hid hO'; have HB' := Lib.hid hB'; have HBL1 := Lib.hid (HBL.out.below hB'); have HZ1 := Lib.hid (Nat.le_trans HB.out.size hB'.size); clear hO' hB' hcl)
          | (at_builtin; refine list_of rfl fun K hK => wp_app1 (w := w2) (base := w3.heap.size) _ _ 28 rfl el55 rfl (.slice A' _ c') rfl rfl HBL1.out.o (by omega) (by omega) HZ1.out ?_; intro A2 c4 w4 hO2 hg2; have HO2 := Lib.hid hO2; have HG2 := Lib.hid hg2; clear hO2 hg2; refine hK _ _ ?_; clear hK K))
        have hA' : A' ≠ none := own_some HO'.out (q := 0) (by omega)
        have hge' := (Ownv.blk_of HO'.out hA').1
        have hBL2 : BL w4 w3.heap.size A2 c4 (L ++ [⟨A', K, c', d⟩]) :=
          BL.push HBL1.out (s := ⟨A', K, c', d⟩) (Ownv.mono HO'.out HB.out.size) hA'
            (fun t ht => by have h8 := (Ownv.blk_of (HBL.out.r t ht).1 (HBL.out.r t ht).2).2; exact Nat.ne_of_lt (Nat.lt_of_lt_of_le h8 hge')) HO2.out HG2.out
        have hob : ∀ k, (Value.slice A L.length c2).ownBlock = some k → w3.heap.size ≤ k := fun k hk => Ownv.ob' HBL1.out.o hk
        have hB1 := HB.out.trans (HB'.out.mono HB.out.size)
        have hB2 := hB1.grown HG2.out hB1.size hob
        go_roundw
        case rel => exact ⟨L.length + 1, A2, c4, L ++ [⟨A', K, c', d⟩], by omega, by go_num, by simp, by simp, hBL2, by rw [List.map_append, HX.out, List.take_add_one, HD.out]; rfl, hB2⟩
        case measure => simp [intOf]; omega
      · have hL : L.length = n3 := by omega
        have HXL : Hid (L.map (·.xs) = bD xs) := Lib.hid (by rw [HX.out, List.take_of_length_le (by have := HN3.out; omega)])
        have HSG := Lib.hid (sg_of HE.out HBY1.out HXL.out (fun s hs => Rd.len (Own.rd (HBL.out.r s hs).1)))
        obtain ⟨z1, z2, z3⟩ := bE_zero HE.out
        have hbit := bit_of (fun x hx => (HBY1.out x hx).1) z3
        have HTE := Lib.hid (tE_ok hbit z1 z2 HSG.out)
        have HTT := Lib.hid (fun k q r hk hq A c => tE_turn hbit z1 z2 HSG.out (k := k) (q := q) (r := r) hk hq (A := A) (c := c))
        have HSM : Hid (∀ s ∈ L, s.n ≤ 6168) := Lib.hid (fun s hs => by
          have h1 := (bD_le (xs := xs)).1 s.xs (by rw [← HXL.out]; exact List.mem_map_of_mem hs)
          have h2 := Rd.len (Own.rd (HBL.out.r s hs).1)
          omega)
        have hL1 : 1 ≤ L.length := by rw [HSG.out.len]; exact bC_pos
        have HO1B := Lib.hid (Rdv.below HO13.out hB)
        have HBW := Lib.hid (HB3.out.trans (hB.mono HB3.out.size))
        rw [hml] at HTE HTT
        clear hBL hxs hB z1 z2 z3 hbit HO13 hL hj
        go_wp2_with fail
        refine (tjoin_any m A L.length c2 L wr HBL.out.rl (fun s hs => by have := HSM.out s hs; omega)).mono ?_
        rintro e w5 ⟨A5, n5, c5, rfl, hR5, hB5⟩
        rw [HTE.out.1]
        rw [HTE.out.2] at hR5
        have HR5 := Lib.hid hR5
        have HO1C := Lib.hid (Rdv.below HO1B.out hB5)
        have HBL5 := Lib.hid (HBL.out.below hB5)
        have HB5 := Lib.hid (HBW.out.trans (hB5.mono HBW.out.size))
        have HZ5 := Lib.hid hB5.size
        clear hR5 hB5
        go_wp2_with fail
        refine (same_any A5 A1 n5 c5 m m xs xs w5 HR5.out HO1C.out).mono ?_
        rintro e w6 ⟨he, q6, rfl⟩
        rw [decide_eq_true rfl] at he
        subst he
        have HBL6 : Hid (BL (w5.drewN q6) w3.heap.size A c2 L) := Lib.hid (HBL5.out.below (Qt.below ⟨q6, rfl⟩ _))
        have HB6 : Hid (Below w.heap.size w (w5.drewN q6)) := Lib.hid (HB5.out.trans (Qt.below ⟨q6, rfl⟩ _))
        have HZ6 : Hid (w3.heap.size ≤ (w5.drewN q6).heap.size) := Lib.hid (Nat.le_trans HB.out.size HZ5.out)
        clear HBL5 HB5 HZ5 HR5 HO1C
        obtain ⟨W6, hW6⟩ : ∃ W, W = w5.drewN q6 := ⟨_, rfl⟩
        rw [← hW6] at HBL6 HB6 HZ6 ⊢
        clear hW6
        have hne0 : ((L.length : Int) == 0) = false := beq_f (by omega)
        have hL0 : ¬ L.length = 0 := by omega
        have hLi : (L.length : Int) ≤ 14 := by have h9 := HSG.out.len; have h8 := bC_le (b := xs.length + 24) (by omega); omega
        have hlw : IntKind.u64.wrap (L.length : Int) = (L.length : Int) := by rw [IntKind.wrap_u64]; omega
        obtain ⟨ub, hub⟩ : ∃ ub : Nat, IntKind.u64.wrap bk = (ub : Int) := ⟨(IntKind.u64.wrap bk).toNat, by rw [IntKind.wrap_u64]; omega⟩
        obtain ⟨ua, hua⟩ : ∃ ua : Nat, IntKind.u64.wrap ap = (ua : Int) := ⟨(IntKind.u64.wrap ap).toNat, by rw [IntKind.wrap_u64]; omega⟩
        obtain ⟨I, hI⟩ : ∃ I, I = ub % L.length := ⟨_, rfl⟩
        have hIl : I < L.length := by rw [hI]; exact Nat.mod_lt _ (by omega)
        have htm : (ub : Int).tmod (L.length : Int) = (I : Int) := by rw [Int.tmod_eq_emod_of_nonneg (by omega), hI]; rfl
        have hem : (ub : Int) % (L.length : Int) = (I : Int) := by rw [hI]; rfl
        have hwI : IntKind.i64.wrap (I : Int) = (I : Int) := by rw [IntKind.wrap_i64]; omega
        have hwI2 : wrap64 (I : Int) = (I : Int) := by unfold wrap64; omega
        obtain ⟨r, hr⟩ : ∃ r, L[I]? = some r := ⟨_, List.getElem?_eq_getElem hIl⟩
        have hrm := List.mem_of_getElem? hr
        have hrn := HSM.out r hrm
        have hro := (HBL6.out.r r hrm).1
        have hrn1 : 40 ≤ r.n := by
          have h7 := (HSG.out.get hr).2.2
          have h8 := sz_40 (xs.length + 24) I
          omega
        have hcI : W6.cell? (adr A I) = some (.slice r.A r.n r.c) := HBL6.out.o.rd.at_ I r.v (by rw [List.getElem?_map, hr]; rfl)
        have hixI := fun W => Rdv.ix HBL6.out.o.rd el55 (j := I) hIl .i64 W
        have hrn0 : ¬ r.n = 0 := by omega
        have hrw : IntKind.u64.wrap (r.n : Int) = (r.n : Int) := by rw [IntKind.wrap_u64]; omega
        obtain ⟨q, hq⟩ : ∃ q, q = ua % r.n := ⟨_, rfl⟩
        have hql : q < r.n := by rw [hq]; exact Nat.mod_lt _ (by omega)
        have htq : (ua : Int).tmod (r.n : Int) = (q : Int) := by rw [Int.tmod_eq_emod_of_nonneg (by omega), hq]; rfl
        have heq : (ua : Int) % (r.n : Int) = (q : Int) := by rw [hq]; rfl
        have hwq : IntKind.i64.wrap (q : Int) = (q : Int) := by rw [IntKind.wrap_i64]; omega
        have hwq2 : wrap64 (q : Int) = (q : Int) := by unfold wrap64; omega
        have hcq := Rd.cell (Own.rd hro) hql
        have hfq := Ownv.frozen hro (by have := Rdv.le (Own.rd hro); omega) q
        have hixq := fun W => Rdv.ix (Own.rd hro) el53 (j := q) hql .i64 W
        have hbit := HSG.out.bit r hrm _ (gi_mem r.xs q (by rw [Rd.len (Own.rd hro)]; exact hql))
        have hw8 := flip_u8 hbit
        have HPV := Lib.hid (BL.putv HBL6.out hr hql (1 - gi r.xs q))
        have HTU := Lib.hid (HTT.out I q r hr hql r.A r.c)
        have HRS : Hid (∀ s ∈ L.set I ⟨r.A, r.n, r.c, r.xs.set q (1 - gi r.xs q)⟩, s.n ≤ 100000) := Lib.hid (fun s hs => by
          rcases List.mem_or_eq_of_mem_set hs with hs | rfl
          · have := HSM.out s hs; omega
          · show r.n ≤ 100000; omega)
        have HBQ := Lib.hid (Ownv.blk_of hro (HBL6.out.r r hrm).2)
        obtain ⟨L', hL'⟩ : ∃ L', L' = L.set I ⟨r.A, r.n, r.c, r.xs.set q (1 - gi r.xs q)⟩ := ⟨_, rfl⟩
        rw [← hL'] at HPV HTU HRS
        clear hL' hI hq hro hr hrm hbit
        generalize hgv : gi r.xs q = gv at *
        go_wp2_with fail
        go_still_tail 14, (by kernel_rfl)
        simp only [World.drew_eq]
        go_wp2_with fail
        have HR2 := Lib.hid HPV.out.1
        have HB7 := Lib.hid (HB6.out.grown HPV.out.2 HB6.out.size (fun k hk => by cases hk; exact Nat.le_trans HB3.out.size HBQ.out.1))
        refine (tjoin_any m A L.length c2 L' _ (RL.drewN HR2.out 1) HRS.out).mono ?_
        rintro e w8 ⟨A8, n8, c8, rfl, hR8, hB8⟩
        have hne9 : (tE m L' != 0) = true := bne_t HTU.out.1
        rw [HTU.out.2] at hR8
        have hn8 : n8 = 0 := by have := hR8.len; exact this.symm
        subst hn8
        have HB8 : Hid (Below w.heap.size w w8) := Lib.hid ((HB7.out.trans (Qt.below ⟨1, rfl⟩ _)).trans (hB8.mono HB7.out.size))
        clear hR8 hB8 HTU
        generalize tE (m : Int) L' = E9 at *
        go_wp2_with fail
        refine (known_any _).mono ?_
        rintro e w9 ⟨rfl, hB9⟩
        have HBX := Lib.hid (HB8.out.trans (hB9.mono HB8.out.size))
        clear hB9
        go_wp2
        go_ret
        exact ⟨rfl, HBX.out⟩
  · have hq : (bE xs != 0) = true := bne_t hE
    clear hE HX3
    generalize bE xs = E at *
    go_wp2_with fail
    refine (known_any _).mono ?_
    rintro e w9 ⟨rfl, hB9⟩
    have HBX := Lib.hid (HB3.out.trans (hB9.mono HB3.out.size))
    clear hB9
    go_wp2
    go_ret
    exact ⟨rfl, HBX.out⟩
end Go.Proofs.YtcbbkflnenkpgaaGreat
