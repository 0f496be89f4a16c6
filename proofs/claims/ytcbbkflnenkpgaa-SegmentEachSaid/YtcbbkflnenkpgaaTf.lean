/-
  The iterator over the sizes of blocks: contracts of both Each and of what the iterator yields. Condition: none.
-/
import Derived.Test.YtcbbkflnenkpgaaTe
import Derived.Test.YtcbbkflnenkpgaaSi
namespace Go.Proofs.Ytcbbkflnenkpgaa
open Go.RowKit Go.Shelf
set_option linter.unusedVariables false
attribute [local go_sem] Oper.semAt_some
/-- how many blocks -/
def nE (b : Int) : Nat := if b < 1 ∨ 79560 < b then 0 else bC b.toNat
theorem nE_le (b : Int) : nE b ≤ 13 := by
  unfold nE
  split
  · omega
  · exact bC_le (by omega)
def ReInv (w : World) (LB : Nat) (o i : Value) (wr : World) : Prop := o = .slice none 0 0 ∧ i = .int .i64 0 ∧ Blk wr LB 23 (ints8 zero7) ∧ Below w.heap.size w wr
set_option maxRecDepth 100000 in
theorem reach_bad (b : Int) (w : World) (h : b < 1 ∨ 79560 < b) : Calls Try.prog 39 #[.int .i64 b] w fun e w' => e = .returned (.slice none 0 0) ∧ Below w.heap.size w w' := by
  have HP := Lib.hid (fun W => rplan_bad b W h)
  simp only [zero7, ints8, List.map_cons, List.map_nil] at HP
  clear h
  go_enter Try.func39, Try.ntmps39
  go_wp2_with (go_at_call 32; refine (HP.out _).mono ?_; rintro e w1 ⟨rfl, hB1⟩)
  have hL := Blk.new w1 (ints8 zero7) 23 rfl
  have hB2 := bal hB1 (.cells (ints8 zero7).toArray 23)
  simp only [zero7, ints8, List.map_cons, List.map_nil] at hL hB2
  generalize w1.alloc (.cells #[.int .i64 0, .int .i64 0, .int .i64 0, .int .i64 0, .int .i64 0, .int .i64 0, .int .i64 0] 23) = w2 at *
  generalize w1.heap.size = LB at *
  clear hB1
  go_loopw [5, 6] (fun o i wr => ReInv w LB o i wr) (fun _ _ _ => 0)
  case atStart => exact ⟨rfl, rfl, hL, hB2⟩
  case round =>
    obtain ⟨rfl, rfl, hK, hB⟩ := hrel
    obtain ⟨⟨c0, c1, c2, c3, c4, c5, c6⟩, -⟩ := Blk.seven hK
    have HB := Lib.hid hB
    clear hB hL hB2 hK
    go_wp2
    go_ret
    exact ⟨rfl, HB.out⟩
theorem reach_all (b : Int) (w : World) : Calls Try.prog 39 #[.int .i64 b] w fun e w' => ∃ A c, e = .returned (.slice A (nE b) c) ∧ Own .i64 3 w' w.heap.size A (nE b) c (szs b.toNat (nE b)) ∧ Below w.heap.size w w' := by
  by_cases hb : b < 1 ∨ 79560 < b
  · have e0 : nE b = 0 := by unfold nE; rw [if_pos hb]
    refine (reach_bad b w hb).mono ?_
    rintro e w' ⟨rfl, hB⟩
    rw [e0]
    exact ⟨none, 0, rfl, Own.nilv _ _ _ _, hB⟩
  · have e0 : nE b = bC b.toNat := by unfold nE; rw [if_neg hb]
    have h := reach_ok b.toNat w (by omega) (by omega)
    rw [show ((b.toNat : Nat) : Int) = b by omega] at h
    rw [e0]
    exact h
/-- what the layout says of the sizes -/
structure EaL (b : Int) (x0 x1 x2 x3 x4 x5 x6 : Int) : Prop where
  n : x1 = (nE b : Int)
  s : ∀ j : Nat, j < nE b → (sz b.toNat j : Int) = if (j : Int) < x5 then x3 else x2
theorem plan_all (b : Int) (w : World) : Calls Try.prog 31 #[.int .i64 b] w fun e w' => ∃ x0 x1 x2 x3 x4 x5 x6 E, e = .returned (.tuple #[.agg #[.int .i64 x0, .int .i64 x1, .int .i64 x2, .int .i64 x3, .int .i64 x4, .int .i64 x5, .int .i64 x6], .int .i64 E]) ∧ EaL b x0 x1 x2 x3 x4 x5 x6 ∧ Below w.heap.size w w' := by
  by_cases hb : b < 1 ∨ 79560 < b
  · have e0 : nE b = 0 := by unfold nE; rw [if_pos hb]
    refine (plan_top_bad b w hb).mono ?_
    rintro e w' ⟨rfl, hB⟩
    exact ⟨0, 0, 0, 0, 0, 0, 0, 2, rfl, ⟨by rw [e0]; rfl, fun j hj => by omega⟩, hB⟩
  · have e0 : nE b = bC b.toNat := by unfold nE; rw [if_neg hb]
    have h := plan_top b.toNat w (by omega) (by omega)
    rw [show ((b.toNat : Nat) : Int) = b by omega] at h
    refine h.mono ?_
    rintro e w' ⟨rfl, hB⟩
    exact ⟨_, _, _, _, _, _, _, 0, rfl, ⟨by rw [e0], fun j _ => sz_if b.toNat j⟩, hB⟩
/-- what the iterator yields -/
def psE (b : Int) : List (Int × Int) := (List.range (nE b)).map fun (i : Nat) => ((i : Int), (sz b.toNat i : Int))
theorem psE_len (b : Int) : (psE b).length = nE b := by simp [psE]
theorem psE_succ (b : Int) (k : Nat) (h : k < nE b) : (psE b).take (k + 1) = (psE b).take k ++ [((k : Int), (sz b.toNat k : Int))] := by
  rw [takeP_succ _ _ (by rw [psE_len]; exact h)]
  simp [psE]
theorem psE_get (b : Int) (n : Nat) (h : n < (psE b).length) : (psE b)[n].1 = (n : Int) ∧ (psE b)[n].2 = gi (szs b.toNat (nE b)) n := by
  rw [psE_len] at h
  rw [gi_szs _ _ _ h]
  simp [psE]
def EjI (b : Int) (J : List (Int × Int) → World → Prop) (W0 : World) (LB : Nat) (ls : List Int) (i : Value) (wr : World) : Prop :=
  ∃ k : Nat, k ≤ nE b ∧ i = .int .i64 k ∧ J ((psE b).take k) wr ∧ Blk wr LB 23 (ints8 ls) ∧ W0.heap.size ≤ wr.heap.size
def EaQ (b : Int) (J Jx : List (Int × Int) → World → Prop) (e : Ending) (W' : World) : Prop :=
  (∃ v, e = .returned v) ∧ ((∃ ys, ys = psE b ∧ J ys W') ∨ (∃ pre, (∃ k, k ≤ nE b ∧ pre = (psE b).take k) ∧ Jx pre W'))
set_option maxRecDepth 100000 in
set_option maxHeartbeats 2000000 in
theorem each_in (l : Nat) (b : Int) (LB : Nat) (x0 x1 x2 x3 x4 x5 x6 : Int) (hE : EaL b x0 x1 x2 x3 x4 x5 x6) (bs : List Nat) (W : World) (h : Blk W LB 23 (ints8 [x0, x1, x2, x3, x4, x5, x6])) (ha : LB ∉ bs)
    (J Jx : List (Int × Int) → World → Prop) (hJ : Cl W.heap.size J) (hJx : Cl W.heap.size Jx)
    (hY : ∀ pre x W1, J pre W1 → pre.length < nE b → YieldAt Fence.wide 1 Try.prog l (encP x) W1 fun e W' =>
      (e = .returned (.bool true) ∧ J (pre ++ [x]) W' ∧ KpB bs W1 W') ∨ (e = .returned (.bool false) ∧ Jx (pre ++ [x]) W'))
    (h0 : J [] W) :
    CallsIn Fence.wide 2 Try.prog 79 #[.func (.yield l) #[] #[], .pointer (some ⟨LB, 0, none⟩)] W (EaQ b J Jx) := by
  obtain ⟨rfl, hs⟩ := hE
  have HS := Lib.hid hs
  have hn := nE_le b
  have HLB := Lib.hid h
  obtain ⟨⟨c0, c1, c2, c3, c4, c5, c6⟩, -⟩ := Blk.seven h
  have HA := Lib.hid ha
  clear h hs ha
  refine callsIn_of_wp Try.func79 rfl trivial ?_ rfl
  simp only [Try.ntmps79, List.size_toArray, List.length_cons, List.length_nil, Nat.reduceAdd, Nat.reduceSub, Array.replicate_succ, Array.replicate_zero, List.push_toArray, List.append_toArray, List.nil_append, List.cons_append]
  refine wpIn_scope_straight rfl ?_
  refine wpIn_seq_k fun K hK => ?_
  refine wpIn_label ?_
  refine hK _ _ ?_
  clear hK K
  gi_wp2_with fail
  gi_loopw [6] (fun i wr => EjI b J W LB [x0, (nE b : Int), x2, x3, x4, x5, x6] i wr) (fun i _ => nE b - (intOf i).toNat)
  case atStart => exact ⟨0, Nat.zero_le _, rfl, h0, HLB.out, Nat.le_refl _⟩
  case round =>
    obtain ⟨k, hk, rfl, hJs, hL, hz⟩ := hrel
    have HJk := Lib.hid hJs
    have HZk := Lib.hid hz
    have HLk := Lib.hid hL
    clear hJs hz
    by_cases hlt : k < nE b
    · have hsz := HS.out k hlt
      simp only [ints8, List.map_cons, List.map_nil] at hL
      gi_wp2_with (refine listIn_of rfl nofun fun K hK => wp_ldrow (cs := [.int .i64 x0, .int .i64 (nE b : Int), .int .i64 x2, .int .i64 x3, .int .i64 x4, .int .i64 x5, .int .i64 x6]) 23 (.tmp 1) rfl rfl hL _ Try.underlying23 rfl (by rw [info23]; rfl) ?_; refine hK _ _ ?_; clear hK K)
      refine ⟨by simp [Fence.wide], ?_⟩
      refine CallsIn.mono (callsIn_wide.2 (size_any x0 (nE b : Int) x2 x3 x4 x5 x6 (k : Int) _)) ?_
      rintro e w4 ⟨rfl, hB4⟩
      rw [← hsz]
      have HJ4 := Lib.hid (hJ.call HJk.out hB4)
      have HL4 := Lib.hid (HLk.out.below hB4)
      have HZ4 := Lib.hid (Nat.le_trans HZk.out hB4.size)
      have HPS := Lib.hid (psE_succ b k hlt)
      clear hL hB4 hsz HJk HLk HZk
      obtain ⟨fn, tmps, assign, body, hy, hRD⟩ := hY _ ((k : Int), (sz b.toNat k : Int)) _ HJ4.out (by rw [List.length_take, psE_len]; omega)
      unfold encP at hy
      have HRD := Lib.hid hRD
      clear hRD
      gi_wp2_with fail
      refine HRD.out.mono ?_
      rintro e W7 (⟨rfl, hJ7, hk7⟩ | ⟨rfl, hJx7⟩)
      · gi_wp2
        go_roundw
        case rel => exact ⟨k + 1, by omega, by go_num, by rw [HPS.out]; exact hJ7, HL4.out.kp hk7 HA.out, Nat.le_trans HZ4.out hk7.1⟩
        case measure => simp [intOf]; omega
      · gi_wp2
        go_end0
        exact ⟨⟨_, rfl⟩, .inr ⟨_, ⟨k + 1, by omega, HPS.out.symm⟩, hJx7⟩⟩
    · obtain rfl : k = nE b := by omega
      clear hL
      gi_wp2
      go_end0
      exact ⟨⟨_, rfl⟩, .inl ⟨_, List.take_of_length_le (Nat.le_of_eq (psE_len b)), HJk.out⟩⟩
theorem each_it (b : Int) (LB : Nat) (x0 x1 x2 x3 x4 x5 x6 : Int) (hE : EaL b x0 x1 x2 x3 x4 x5 x6) : It (psE b) #[.pointer (some ⟨LB, 0, none⟩)] (fun q => LB ≠ q) (fun W => Blk W LB 23 (ints8 [x0, x1, x2, x3, x4, x5, x6])) where
  seq := fun q w hO hW hq => by
    rw [psE_len]
    exact fun l J Jx W hB hJ hJx hY h0 => each_in l b LB x0 x1 x2 x3 x4 x5 x6 hE [q] W (hW.below hB) (by simpa using hO) J Jx hJ hJx hY h0
  kp := fun q W W' hO hW hk => hW.kp hk (by simpa using hO)
  below := fun W W' hW hB => hW.below hB
def EachAll (b : Int) (w : World) (e : Ending) (w' : World) : Prop := ∃ (lb : Array Value) (Ok : Nat → Prop) (Fw : World → Prop), e = .returned (.func (.func 79) #[] lb) ∧ It (psE b) lb Ok Fw ∧ Fw w' ∧ (∀ q, w'.heap.size ≤ q → Ok q) ∧ Below w.heap.size w w'
set_option maxRecDepth 100000 in
theorem each_all (b : Int) (w : World) : Calls Try.prog 40 #[.int .i64 b] w (EachAll b w) := by
  have hmf : ∀ (fn : Fn) (first cap : Array Value) (w : World), (Instr.makeFunc fn first cap).run Try.prog w = .ok (.func fn first cap) w := fun _ _ _ _ => rfl
  go_enter Try.func40, Try.ntmps40
  go_wp2_with fail
  refine (plan_all b w).mono ?_
  rintro e w1 ⟨x0, x1, x2, x3, x4, x5, x6, E, rfl, hE, hB1⟩
  have HL := Lib.hid (Blk.new w1 (ints8 [x0, x1, x2, x3, x4, x5, x6]) 23 rfl)
  have HB := Lib.hid (bal hB1 (.cells (ints8 [x0, x1, x2, x3, x4, x5, x6]).toArray 23))
  have HIT := Lib.hid (each_it b w1.heap.size x0 x1 x2 x3 x4 x5 x6 hE)
  clear hE hB1
  simp only [ints8, List.map_cons, List.map_nil] at HL HB
  go_wp2
  go_ret
  exact ⟨_, _, _, rfl, HIT.out, HL.out, fun q hq => by have := HL.out.lt; omega, HB.out⟩
end Go.Proofs.Ytcbbkflnenkpgaa
