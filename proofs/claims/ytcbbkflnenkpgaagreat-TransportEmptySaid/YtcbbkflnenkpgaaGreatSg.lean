/-
  Contracts of plan, of caught and of Plan. Condition: none.
-/
import Derived.Test.YtcbbkflnenkpgaaGreatSf
import Derived.Recover
namespace Go.Proofs.YtcbbkflnenkpgaaGreat
open Go.RowKit
set_option linter.unusedVariables false
theorem plan_ok (b : Nat) (w : World) (h1 : 1 ≤ b) (h2 : b ≤ 79560) : Calls Tryz.prog 43 #[.int .i64 b] w (PlPost b w) := by
  by_cases h : b ≤ 6144
  · exact plan_one b w h1 h
  · exact plan_many b w h h2
set_option maxRecDepth 100000 in
theorem plan_bad (b : Int) (w : World) (h : b < 1 ∨ 79560 < b) : Calls Tryz.prog 43 #[.int .i64 b] w fun e w' => e = .panicked (pan 2) ∧ Below w.heap.size w w' := by
  rcases h with h | h
  · go_enter Tryz.func43, Tryz.ntmps43
    go_wp2_with (go_at_call 44; refine (must_bad _ _).mono ?_; rintro e w' ⟨rfl, rfl⟩)
    simp only [bodyPost]
    exact ⟨trivial, trivial, (Below.refl _ _).alloc (Nat.le_refl _) _⟩
  · have hd : decide (b ≤ 79560) = false := by simp; omega
    go_enter Tryz.func43, Tryz.ntmps43
    go_wp2_with (go_at_call 44; refine (must_bad _ _).mono ?_; rintro e w' ⟨rfl, rfl⟩)
    simp only [bodyPost]
    exact ⟨trivial, trivial, (Below.refl _ _).alloc (Nat.le_refl _) _⟩
set_option maxRecDepth 100000 in
theorem caught_idle (p : Addr) (c : Value) (w : World) :
    CallsD Tryz.prog 41 #[.pointer (some p), c] .returning w fun e u' w' => e = .returned (.tuple #[]) ∧ u' = .returning ∧ w' = w := by
  refine callsD_of_wpS Tryz.func41 rfl fun c₀ cs hu => ?_
  simp only [Tryz.ntmps41, List.size_toArray, List.length_cons, List.length_nil, Nat.reduceAdd, Nat.reduceSub, Array.replicate_succ, Array.replicate_zero, List.push_toArray, List.append_toArray, List.nil_append, List.cons_append]
  apply wpS_seq
  apply wpS_region
  simp [wpOpsS, go_sem, recoverD, hu, Exit.thenS]
  refine wpS_of_wp ?_
  go_wp2
  cases c₀
  simp_all [bodyPostS, results, Tryz.results41]
set_option maxRecDepth 100000 in
theorem caught_pan63 (p : Addr) (caps : Array Value) (e : Int) (w : World) (R : World → Prop) (hcl : Calls Tryz.prog 84 caps w fun en w' => en = .returned (.tuple #[]) ∧ R w') (hp : ∀ W, R W → (∃ x, W.cell? p = some (.int .i64 x)) ∧ W.frozen? p = false) :
    CallsD Tryz.prog 41 #[.pointer (some p), .func (.func 84) #[] caps] (.panicking (pan e)) w fun en u' w' => en = .returned (.tuple #[]) ∧ u' = .panicking [{ v := .iface 29 (.int .i64 e), recovered := true }] ∧ ∃ W, R W ∧ w' = W.setCell p (.int .i64 e) := by
  have hta : ∀ W : World, (Instr.typeAssert (.iface 29 (.int .i64 e)) 20 29 true).run Tryz.prog W = .ok (.tuple #[.int .i64 e, .bool true]) W := fun W => by kernel_rfl
  have HC := Lib.hid hcl
  have HP := Lib.hid hp
  clear hcl hp
  refine callsD_of_wpS Tryz.func41 rfl fun c₀ cs hu => ?_
  simp only [Tryz.ntmps41, List.size_toArray, List.length_cons, List.length_nil, Nat.reduceAdd, Nat.reduceSub, Array.replicate_succ, Array.replicate_zero, List.push_toArray, List.append_toArray, List.nil_append, List.cons_append]
  apply wpS_seq
  apply wpS_region
  simp [wpOpsS, go_sem, recoverD, hu, pan, Exit.thenS]
  refine wpS_of_wp ?_
  go_wp2_with (go_at_call 84; refine HC.out.mono ?_; rintro en W ⟨rfl, hRW⟩; obtain ⟨⟨x, hpc⟩, hpf⟩ := HP.out W hRW)
  cases c₀
  have HRW := Lib.hid hRW
  have he : ∃ W', R W' ∧ W.setCell p (.int .i64 e) = W'.setCell p (.int .i64 e) := ⟨W, HRW.out, rfl⟩
  have HE := Lib.hid he
  clear HP HC hRW he hpc hpf
  simp only [bodyPostS]
  simp_all [results, Tryz.results41]
  exact HE.out
set_option maxRecDepth 100000 in
theorem caught_pan65 (p : Addr) (caps : Array Value) (e : Int) (w : World) (R : World → Prop) (hcl : Calls Tryz.prog 42 caps w fun en w' => en = .returned (.tuple #[]) ∧ R w') (hp : ∀ W, R W → (∃ x, W.cell? p = some (.int .i64 x)) ∧ W.frozen? p = false) :
    CallsD Tryz.prog 41 #[.pointer (some p), .func (.func 42) #[] caps] (.panicking (pan e)) w fun en u' w' => en = .returned (.tuple #[]) ∧ u' = .panicking [{ v := .iface 29 (.int .i64 e), recovered := true }] ∧ ∃ W, R W ∧ w' = W.setCell p (.int .i64 e) := by
  have hta : ∀ W : World, (Instr.typeAssert (.iface 29 (.int .i64 e)) 20 29 true).run Tryz.prog W = .ok (.tuple #[.int .i64 e, .bool true]) W := fun W => by kernel_rfl
  have HC := Lib.hid hcl
  have HP := Lib.hid hp
  clear hcl hp
  refine callsD_of_wpS Tryz.func41 rfl fun c₀ cs hu => ?_
  simp only [Tryz.ntmps41, List.size_toArray, List.length_cons, List.length_nil, Nat.reduceAdd, Nat.reduceSub, Array.replicate_succ, Array.replicate_zero, List.push_toArray, List.append_toArray, List.nil_append, List.cons_append]
  apply wpS_seq
  apply wpS_region
  simp [wpOpsS, go_sem, recoverD, hu, pan, Exit.thenS]
  refine wpS_of_wp ?_
  go_wp2_with (go_at_call 42; refine HC.out.mono ?_; rintro en W ⟨rfl, hRW⟩; obtain ⟨⟨x, hpc⟩, hpf⟩ := HP.out W hRW)
  cases c₀
  have HRW := Lib.hid hRW
  have he : ∃ W', R W' ∧ W.setCell p (.int .i64 e) = W'.setCell p (.int .i64 e) := ⟨W, HRW.out, rfl⟩
  have HE := Lib.hid he
  clear HP HC hRW he hpc hpf
  simp only [bodyPostS]
  simp_all [results, Tryz.results41]
  exact HE.out
set_option maxRecDepth 100000 in
theorem caught_pan76 (p : Addr) (caps : Array Value) (e : Int) (w : World) (R : World → Prop) (hcl : Calls Tryz.prog 79 caps w fun en w' => en = .returned (.tuple #[]) ∧ R w') (hp : ∀ W, R W → (∃ x, W.cell? p = some (.int .i64 x)) ∧ W.frozen? p = false) :
    CallsD Tryz.prog 41 #[.pointer (some p), .func (.func 79) #[] caps] (.panicking (pan e)) w fun en u' w' => en = .returned (.tuple #[]) ∧ u' = .panicking [{ v := .iface 29 (.int .i64 e), recovered := true }] ∧ ∃ W, R W ∧ w' = W.setCell p (.int .i64 e) := by
  have hta : ∀ W : World, (Instr.typeAssert (.iface 29 (.int .i64 e)) 20 29 true).run Tryz.prog W = .ok (.tuple #[.int .i64 e, .bool true]) W := fun W => by kernel_rfl
  have HC := Lib.hid hcl
  have HP := Lib.hid hp
  clear hcl hp
  refine callsD_of_wpS Tryz.func41 rfl fun c₀ cs hu => ?_
  simp only [Tryz.ntmps41, List.size_toArray, List.length_cons, List.length_nil, Nat.reduceAdd, Nat.reduceSub, Array.replicate_succ, Array.replicate_zero, List.push_toArray, List.append_toArray, List.nil_append, List.cons_append]
  apply wpS_seq
  apply wpS_region
  simp [wpOpsS, go_sem, recoverD, hu, pan, Exit.thenS]
  refine wpS_of_wp ?_
  go_wp2_with (go_at_call 79; refine HC.out.mono ?_; rintro en W ⟨rfl, hRW⟩; obtain ⟨⟨x, hpc⟩, hpf⟩ := HP.out W hRW)
  cases c₀
  have HRW := Lib.hid hRW
  have he : ∃ W', R W' ∧ W.setCell p (.int .i64 e) = W'.setCell p (.int .i64 e) := ⟨W, HRW.out, rfl⟩
  have HE := Lib.hid he
  clear HP HC hRW he hpc hpf
  simp only [bodyPostS]
  simp_all [results, Tryz.results41]
  exact HE.out
end Go.Proofs.YtcbbkflnenkpgaaGreat
