/-
  Facts on the element types bytes and integers of slices. Condition: none.
-/
import Derived.Test.YtmdjclfmhndjnaaProg
import Derived.Test.YtmdjclfmhndjnaaR
import Derived.WalkMore
import Derived.ScopeJumps
import Derived.OwnWalk
import Derived.Laws.ResultCell
import Derived.Handy
namespace Go.Proofs.Ytmdjclfmhndjnaa
open Go.RowKit
theorem el26 : El Try.prog 26 5 (.int .u8 0) 1 := ⟨by kernel_rfl, by kernel_rfl, fun _ => by kernel_rfl, rfl⟩
theorem el22 : El Try.prog 22 3 (.int .i64 0) 8 := ⟨by kernel_rfl, by kernel_rfl, fun _ => by kernel_rfl, rfl⟩
theorem gi_set (m : List Int) (i t : Nat) (v : Int) (hi : i < m.length) : gi (m.set i v) t = if i = t then v else gi m t := by
  unfold gi
  rw [List.getD_eq_getElem?_getD, List.getElem?_set]
  by_cases h : i = t
  · rw [if_pos h, if_pos h, if_pos (by omega)]; rfl
  · rw [if_neg h, if_neg h, ← List.getD_eq_getElem?_getD]
end Go.Proofs.Ytmdjclfmhndjnaa
