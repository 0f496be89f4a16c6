/-
  Bundle of the texts Ie Ch Iq Ci. Conditions: none.
-/
import Derived.Test.YtpdalbckmfadbaaBunaf
import Derived.Test.YtpdalbckmfadbaaBunai
import Derived.Deep.QuietTactic
import Derived.BigQuiet
namespace Go.Proofs.Ytpdalbckmfadbaa
open Go.RowKit
set_option linter.unusedVariables false
theorem cell_below {w w' : World} {p : Addr} {v : Value} (hc : w.cell? p = some v) (h : Below w.heap.size w w') : w'.cell? p = some v := (h.cell (World.block_lt_of_cell? w _ hc)).trans hc
theorem size_any (A : Option Addr) (n c : Nat) (w : World) (hn : n ≤ 1000000) : Calls Try.prog 24 #[.slice A n c] w fun e w' => e = .returned (.int .i64 ((n : Int) / 3 - 4)) ∧ w = w' := by
  have a1 : (n : Int).tdiv 3 = (n : Int) / 3 := Int.tdiv_eq_ediv_of_nonneg (by omega)
  have a2 : IntKind.i64.wrap ((n : Int) / 3) = (n : Int) / 3 := by rw [IntKind.wrap_i64]; omega
  have a3 : IntKind.i64.wrap ((n : Int) / 3 - 4) = (n : Int) / 3 - 4 := by rw [IntKind.wrap_i64]; omega
  go_enter Try.func24, Try.ntmps24
  go_wp2
  go_ret
  exact ⟨rfl, rfl⟩
theorem bsoft_any (v : Int) (w : World) : Calls Try.prog 27 #[.int .i64 v] w fun e w' => e = .returned (.bool (!decide (-127 ≤ v ∧ v ≤ 127))) ∧ w = w' := by
  by_cases h1 : v < -127
  · rw [show decide (-127 ≤ v ∧ v ≤ 127) = false from by simp; omega]
    go_enter Try.func27, Try.ntmps27
    go_wp2
    go_ret
    exact ⟨rfl, rfl⟩
  · rw [show decide (-127 ≤ v ∧ v ≤ 127) = !decide (127 < v) from by rw [Bool.eq_iff_iff]; simp; omega, Bool.not_not]
    go_enter Try.func27, Try.ntmps27
    go_wp2
    go_ret
    exact ⟨rfl, rfl⟩
set_option maxHeartbeats 400000 in
theorem bidx_any (A : Option Addr) (n c : Nat) (xs : List Int) (w : World) (h : Rd .i64 w A n c xs) :
    Calls Try.prog 53 #[.slice A n c, .func (.func 27) #[] #[]] w (SPost (SoftB xs) w) := by
  have hbd := h.bd.1
  go_enter Try.func53, Try.ntmps53
  go_wp2
  go_loop [8] (fun i => SIdx n xs i) (fun i => n - (intOf i).toNat)
  case atStart => exact ⟨0, by omega, rfl, by intro q hq; omega⟩
  case round =>
    obtain ⟨j, hj, rfl, hv⟩ := hrel
    by_cases hlt : j < n
    · have hc := Rd.cell h hlt
      have hix := fun W => Rdv.ix h el22 hlt .i64 W
      have HV := Lib.hid hv; clear hv
      by_cases h1 : -127 ≤ gi xs j ∧ gi xs j ≤ 127
      · have h1' : (!decide (-127 ≤ gi xs j ∧ gi xs j ≤ 127)) = false := by simp; omega
        have H1 := Lib.hid h1; clear h1
        go_wp2_with (go_at_call 27; refine (bsoft_any _ _).mono ?_; rintro e w' ⟨rfl, rfl⟩; rw [h1'])
        go_round
        case rel => exact ⟨j + 1, by omega, by go_num, fun q hq => lt_succ_cases HV.out H1.out q hq⟩
        case measure => simp [intOf]; omega
      · have h1' : (!decide (-127 ≤ gi xs j ∧ gi xs j ≤ 127)) = true := by simp; omega
        have hf := Lib.hid (softB_f (by rw [h.len]; exact hlt) h1)
        clear h1
        go_wp2_with (go_at_call 27; refine (bsoft_any _ _).mono ?_; rintro e w' ⟨rfl, rfl⟩; rw [h1'])
        go_ret
        exact ⟨_, rfl, by rw [hf.out]; simp, rfl⟩
    · have hf := Lib.hid (softB_t (xs := xs) (by rw [h.len]; intro q hq; exact hv q (by omega)))
      clear hv
      go_wp2
      go_ret
      exact ⟨_, rfl, by rw [hf.out]; simp, rfl⟩
theorem bcont_any (A : Option Addr) (n c : Nat) (xs : List Int) (w : World) (h : Rd .i64 w A n c xs) :
    Calls Try.prog 26 #[.slice A n c, .func (.func 27) #[] #[]] w fun e w' => e = .returned (.bool (!SoftB xs)) ∧ w = w' := by
  go_enter Try.func26, Try.ntmps26
  go_wp2_with (go_at_call 53; refine (bidx_any A n c xs w h).mono ?_; rintro e w' ⟨r, rfl, hr, rfl⟩)
  go_ret
  refine ⟨ret_bool ?_, rfl⟩
  cases hv : SoftB xs <;> simp_all
def PkII (w : World) (n : Nat) (Am : Option Addr) (g : Int → Int) (l : List Int) (i : Value) (wr : World) : Prop := ∃ (j : Nat) (cur : List Int), j ≤ n ∧ i = .int .i64 (j : Int) ∧ Own .i64 3 wr w.heap.size Am n n cur ∧ (∀ q, q < j → gi cur q = g (gi l q)) ∧ Below w.heap.size w wr
set_option maxRecDepth 100000 in
set_option maxHeartbeats 1000000 in
theorem pickedA_any (p1 : Value) (g : Int → Int) (A : Option Addr) (n c : Nat) (l : List Int) (w : World) (hl : Rd .i64 w A n c l) (hn : n ≤ 100000)
    (hcl : ∀ j, j < n → ∀ wr, Below w.heap.size w wr → Calls Try.prog 64 #[.int .i64 (gi l j), p1] wr fun e w' => e = .returned (.int .i64 (g (gi l j))) ∧ wr = w') :
    Calls Try.prog 36 #[.func (.func 64) #[] #[p1], .slice A n c] w fun e w' => ∃ A', e = .returned (.slice A' n n) ∧ Own .i64 3 w' w.heap.size A' n n (l.map g) ∧ Below w.heap.size w w' := by
  have HC := Lib.hid hcl
  have HL := Lib.hid hl
  have hll := hl.len
  clear hcl hl
  go_enter Try.func36, Try.ntmps36
  go_wp2_with (at_make; refine list_of rfl fun K hK => wp_mk (n := n) _ _ 22 rfl el22 rfl rfl (by omega) (by unfold maxLen; omega) ?_
               intro Am w3 hO3 hB3 hA
               have HO3 := Lib.hid hO3
               have HB3 := Lib.hid hB3
               clear hO3 hB3 hA
               refine hK _ _ ?_
               clear hK K)
  go_loopw [13] (fun i wr => PkII w n Am g l i wr) (fun i _ => n - (intOf i).toNat)
  case atStart => exact ⟨0, List.replicate n 0, Nat.zero_le _, rfl, by have := HO3.out; unfold Own; simpa using this, fun q hq => by omega, HB3.out⟩
  case round =>
    obtain ⟨j, cur, hj, rfl, hO, hsame, hB⟩ := hrel
    have HB := Lib.hid hB
    have HS := Lib.hid hsame
    by_cases hlt : j < n
    · have hrl := Rdv.below HL.out hB
      have cl := Rd.cell hrl hlt
      have il := fun W => Rdv.ix hrl el22 hlt .i64 W
      have hcu := Rd.cell (Own.rd hO) hlt
      have hfu := Ownv.frozen hO (by omega) j
      have hiu := fun W => Rdv.ix (Own.rd hO) el22 hlt .i64 W
      have hcall := Lib.hid (HC.out j hlt wr hB)
      obtain ⟨x, hx⟩ : ∃ x, gi l j = x := ⟨_, rfl⟩
      rw [hx] at cl hcall
      have HXE := Lib.hid hx
      obtain ⟨u, hu⟩ : ∃ u, g x = u := ⟨_, rfl⟩
      rw [hu] at hcall
      have HUE := Lib.hid hu
      have HST := Lib.hid (Own.set_ hO hlt u)
      have hbA := (Ownv.blk_ge hO (by omega)).1
      have HB2 := Lib.hid (hB.grown (Own.set_ hO hlt u).2 hB.size (fun k e => by cases e; exact hbA))
      have hcl := Rd.len (Own.rd hO)
      clear hO hB hsame hx hu
      go_wp2_with fail
      refine hcall.out.mono ?_
      rintro e w4 ⟨rfl, rfl⟩
      go_wp2
      go_roundw
      case rel => exact ⟨j + 1, cur.set j u, by omega, by go_num, HST.out.1, lt_succ_cases (fun q hq => by rw [gi_set' _ _ _ _ (by omega), if_neg (by omega)]; exact HS.out q hq) (by rw [gi_set' _ _ _ _ (by omega), if_pos rfl, HXE.out, HUE.out]), HB2.out⟩
      case measure => simp [intOf]; omega
    · obtain rfl : j = n := by omega
      have hle := Rd.len (Own.rd hO)
      have HLE := Lib.hid (show cur = l.map g from ext_gi (by rw [List.length_map]; omega) fun q hq => by
        rw [hsame q (by omega), gi_eq (l.map g) q (by rw [List.length_map]; omega), List.getElem_map, gi_eq l q (by omega)])
      have HO9 := Lib.hid hO
      clear hO hsame hle hB
      go_wp2
      go_ret
      exact ⟨Am, rfl, by rw [← HLE.out]; exact HO9.out, HB.out⟩
set_option maxRecDepth 100000 in
set_option maxHeartbeats 1000000 in
theorem pickedI_any (p1 : Value) (g : Int → Int) (A : Option Addr) (n c : Nat) (l : List Int) (w : World) (hl : Rd .i64 w A n c l) (hn : n ≤ 100000)
    (hcl : ∀ j, j < n → ∀ wr, Below w.heap.size w wr → Calls Try.prog 35 #[.int .i64 (gi l j), p1] wr fun e w' => e = .returned (.int .i64 (g (gi l j))) ∧ wr = w') :
    Calls Try.prog 36 #[.func (.func 35) #[] #[p1], .slice A n c] w fun e w' => ∃ A', e = .returned (.slice A' n n) ∧ Own .i64 3 w' w.heap.size A' n n (l.map g) ∧ Below w.heap.size w w' := by
  have HC := Lib.hid hcl
  have HL := Lib.hid hl
  have hll := hl.len
  clear hcl hl
  go_enter Try.func36, Try.ntmps36
  go_wp2_with (at_make; refine list_of rfl fun K hK => wp_mk (n := n) _ _ 22 rfl el22 rfl rfl (by omega) (by unfold maxLen; omega) ?_
               intro Am w3 hO3 hB3 hA
               have HO3 := Lib.hid hO3
               have HB3 := Lib.hid hB3
               clear hO3 hB3 hA
               refine hK _ _ ?_
               clear hK K)
  go_loopw [13] (fun i wr => PkII w n Am g l i wr) (fun i _ => n - (intOf i).toNat)
  case atStart => exact ⟨0, List.replicate n 0, Nat.zero_le _, rfl, by have := HO3.out; unfold Own; simpa using this, fun q hq => by omega, HB3.out⟩
  case round =>
    obtain ⟨j, cur, hj, rfl, hO, hsame, hB⟩ := hrel
    have HB := Lib.hid hB
    have HS := Lib.hid hsame
    by_cases hlt : j < n
    · have hrl := Rdv.below HL.out hB
      have cl := Rd.cell hrl hlt
      have il := fun W => Rdv.ix hrl el22 hlt .i64 W
      have hcu := Rd.cell (Own.rd hO) hlt
      have hfu := Ownv.frozen hO (by omega) j
      have hiu := fun W => Rdv.ix (Own.rd hO) el22 hlt .i64 W
      have hcall := Lib.hid (HC.out j hlt wr hB)
      obtain ⟨x, hx⟩ : ∃ x, gi l j = x := ⟨_, rfl⟩
      rw [hx] at cl hcall
      have HXE := Lib.hid hx
      obtain ⟨u, hu⟩ : ∃ u, g x = u := ⟨_, rfl⟩
      rw [hu] at hcall
      have HUE := Lib.hid hu
      have HST := Lib.hid (Own.set_ hO hlt u)
      have hbA := (Ownv.blk_ge hO (by omega)).1
      have HB2 := Lib.hid (hB.grown (Own.set_ hO hlt u).2 hB.size (fun k e => by cases e; exact hbA))
      have hcl := Rd.len (Own.rd hO)
      clear hO hB hsame hx hu
      go_wp2_with fail
      refine hcall.out.mono ?_
      rintro e w4 ⟨rfl, rfl⟩
      go_wp2
      go_roundw
      case rel => exact ⟨j + 1, cur.set j u, by omega, by go_num, HST.out.1, lt_succ_cases (fun q hq => by rw [gi_set' _ _ _ _ (by omega), if_neg (by omega)]; exact HS.out q hq) (by rw [gi_set' _ _ _ _ (by omega), if_pos rfl, HXE.out, HUE.out]), HB2.out⟩
      case measure => simp [intOf]; omega
    · obtain rfl : j = n := by omega
      have hle := Rd.len (Own.rd hO)
      have HLE := Lib.hid (show cur = l.map g from ext_gi (by rw [List.length_map]; omega) fun q hq => by
        rw [hsame q (by omega), gi_eq (l.map g) q (by rw [List.length_map]; omega), List.getElem_map, gi_eq l q (by omega)])
      have HO9 := Lib.hid hO
      clear hO hsame hle hB
      go_wp2
      go_ret
      exact ⟨Am, rfl, by rw [← HLE.out]; exact HO9.out, HB.out⟩
def PkBI (w : World) (n : Nat) (Am : Option Addr) (g : Int → Int) (l : List Int) (i : Value) (wr : World) : Prop := ∃ (j : Nat) (cur : List Int), j ≤ n ∧ i = .int .i64 (j : Int) ∧ Own .u8 5 wr w.heap.size Am n n cur ∧ (∀ q, q < j → gi cur q = g (gi l q)) ∧ Below w.heap.size w wr
set_option maxRecDepth 100000 in
set_option maxHeartbeats 1000000 in
theorem pickedB_any (p1 : Value) (g : Int → Int) (A : Option Addr) (n c : Nat) (l : List Int) (w : World) (hl : Rd .i64 w A n c l) (hn : n ≤ 100000)
    (hcl : ∀ j, j < n → ∀ wr, Below w.heap.size w wr → Calls Try.prog 34 #[.int .i64 (gi l j), p1] wr fun e w' => e = .returned (.int .u8 (g (gi l j))) ∧ wr = w') :
    Calls Try.prog 37 #[.func (.func 34) #[] #[p1], .slice A n c] w fun e w' => ∃ A', e = .returned (.slice A' n n) ∧ Own .u8 5 w' w.heap.size A' n n (l.map g) ∧ Below w.heap.size w w' := by
  have HC := Lib.hid hcl
  have HL := Lib.hid hl
  have hll := hl.len
  clear hcl hl
  go_enter Try.func37, Try.ntmps37
  go_wp2_with (at_make; refine list_of rfl fun K hK => wp_mk (n := n) _ _ 24 rfl el26 rfl rfl (by omega) (by unfold maxLen; omega) ?_
               intro Am w3 hO3 hB3 hA
               have HO3 := Lib.hid hO3
               have HB3 := Lib.hid hB3
               clear hO3 hB3 hA
               refine hK _ _ ?_
               clear hK K)
  go_loopw [13] (fun i wr => PkBI w n Am g l i wr) (fun i _ => n - (intOf i).toNat)
  case atStart => exact ⟨0, List.replicate n 0, Nat.zero_le _, rfl, by have := HO3.out; unfold Own; simpa using this, fun q hq => by omega, HB3.out⟩
  case round =>
    obtain ⟨j, cur, hj, rfl, hO, hsame, hB⟩ := hrel
    have HB := Lib.hid hB
    have HS := Lib.hid hsame
    by_cases hlt : j < n
    · have hrl := Rdv.below HL.out hB
      have cl := Rd.cell hrl hlt
      have il := fun W => Rdv.ix hrl el22 hlt .i64 W
      have hcu := Rd.cell (Own.rd hO) hlt
      have hfu := Ownv.frozen hO (by omega) j
      have hiu := fun W => Rdv.ix (Own.rd hO) el26 hlt .i64 W
      have hcall := Lib.hid (HC.out j hlt wr hB)
      obtain ⟨x, hx⟩ : ∃ x, gi l j = x := ⟨_, rfl⟩
      rw [hx] at cl hcall
      have HXE := Lib.hid hx
      obtain ⟨u, hu⟩ : ∃ u, g x = u := ⟨_, rfl⟩
      rw [hu] at hcall
      have HUE := Lib.hid hu
      have HST := Lib.hid (Own.set_ hO hlt u)
      have hbA := (Ownv.blk_ge hO (by omega)).1
      have HB2 := Lib.hid (hB.grown (Own.set_ hO hlt u).2 hB.size (fun k e => by cases e; exact hbA))
      have hcl := Rd.len (Own.rd hO)
      clear hO hB hsame hx hu
      go_wp2_with fail
      refine hcall.out.mono ?_
      rintro e w4 ⟨rfl, rfl⟩
      go_wp2
      go_roundw
      case rel => exact ⟨j + 1, cur.set j u, by omega, by go_num, HST.out.1, lt_succ_cases (fun q hq => by rw [gi_set' _ _ _ _ (by omega), if_neg (by omega)]; exact HS.out q hq) (by rw [gi_set' _ _ _ _ (by omega), if_pos rfl, HXE.out, HUE.out]), HB2.out⟩
      case measure => simp [intOf]; omega
    · obtain rfl : j = n := by omega
      have hle := Rd.len (Own.rd hO)
      have HLE := Lib.hid (show cur = l.map g from ext_gi (by rw [List.length_map]; omega) fun q hq => by
        rw [hsame q (by omega), gi_eq (l.map g) q (by rw [List.length_map]; omega), List.getElem_map, gi_eq l q (by omega)])
      have HO9 := Lib.hid hO
      clear hO hsame hle hB
      go_wp2
      go_ret
      exact ⟨Am, rfl, by rw [← HLE.out]; exact HO9.out, HB.out⟩
theorem elV : El Try.prog 46 3 (.int .i64 0) 8 := ⟨by kernel_rfl, by kernel_rfl, fun _ => by kernel_rfl, rfl⟩
theorem at1_any (B : Nat) (V : Option Addr) (n c : Nat) (vs : List Int) (i : Int) (w : World) (h : Rd .i64 w V n c vs) (hb : w.cell? ⟨B, 0, none⟩ = some (.slice V n c)) (hi : 0 ≤ i ∧ i < n) :
    Calls Try.prog 64 #[.int .i64 i, .pointer (some ⟨B, 0, none⟩)] w fun e w' => e = .returned (.int .i64 (gi vs i.toNat)) ∧ w = w' := by
  obtain ⟨j, rfl⟩ : ∃ j : Nat, i = (j : Int) := ⟨i.toNat, by omega⟩
  have hj : j < n := by omega
  have hc := Rd.cell h hj
  have hix := fun W => Rdv.ix h elV hj .i64 W
  rw [Int.toNat_natCast]
  clear hi
  go_enter Try.func64, Try.ntmps64
  go_wp2
  go_ret
  exact ⟨rfl, rfl⟩
set_option maxRecDepth 100000 in
theorem at_any (V L : Option Addr) (n c m d : Nat) (vs l : List Int) (w : World) (h : Rd .i64 w V n c vs) (hl : Rd .i64 w L m d l) (hm : m ≤ 100000) (hi : ∀ j, j < m → 0 ≤ gi l j ∧ gi l j < (n : Int)) :
    Calls Try.prog 33 #[.slice V n c, .slice L m d] w fun e w' => ∃ A', e = .returned (.slice A' m m) ∧ Own .i64 3 w' w.heap.size A' m m (pk vs l) ∧ Below w.heap.size w w' := by
  have hsl := fun W => Rdv.slhm hl el22 .i64 .i64 (Rdv.le hl) W
  have HB0 := Lib.hid (bal (Below.refl _ w) (.cells #[.slice V n c] 46))
  have HK0 : Hid ((w.alloc (.cells #[.slice V n c] 46)).cell? ⟨w.heap.size, 0, none⟩ = some (.slice V n c)) := Lib.hid ((Blk.new w [.slice V n c] 46 rfl).cell rfl)
  have H1 := Lib.hid (h.alloc (.cells #[.slice V n c] 46))
  have HL1 := Lib.hid ((Rdv.capn hl).alloc (.cells #[.slice V n c] 46))
  have HI := Lib.hid hi
  clear hi h hl
  go_enter Try.func33, Try.ntmps33
  go_wp2_with fail
  refine (pickedA_any (.pointer (some ⟨w.heap.size, 0, none⟩)) (fun i => gi vs i.toNat) L m m l _ HL1.out hm (fun j hj wr hB => at1_any w.heap.size V n c vs _ wr (Rdv.below H1.out hB) (cell_below HK0.out hB) (HI.out j hj))).mono ?_
  rintro e w1 ⟨A', rfl, hO, hB⟩
  have HO := Lib.hid (Ownv.mono hO (show w.heap.size ≤ _ from HB0.out.size))
  have HB := Lib.hid (HB0.out.trans (hB.mono HB0.out.size))
  clear hO hB
  go_wp2
  go_ret
  exact ⟨A', rfl, HO.out, HB.out⟩
end Go.Proofs.Ytpdalbckmfadbaa

namespace Go.Proofs.Ytpdalbckmfadbaa
open Go.RowKit
set_option linter.unusedVariables false
section
variable {P : Program} {ops : Array Oper} {Q : Exit → Act → World → Prop} {md : Region.Mode} {S : World → Prop} {p : Nat}
/-- every listed operation's forerunners are listed -/
def ClosedR (md : Region.Mode) (ops : Array Oper) (listed : Array Bool) : Prop := ∀ j oj, ops[j]? = some oj → listed.getD j true = true → ∀ e ∈ oj.after, Region.binds md e = true → listed.getD e.on true = true
def closedB (md : Region.Mode) (ops : Array Oper) (listed : Array Bool) : Bool := (List.range ops.size).all fun j => match ops[j]? with
  | some oj => !listed.getD j true || oj.after.all fun e => !Region.binds md e || listed.getD e.on true
  | none => true
theorem closedB_spec {listed : Array Bool} (h : closedB md ops listed = true) : ClosedR md ops listed := by
  intro j oj hj hl e he hb
  unfold closedB at h
  rw [List.all_eq_true] at h
  have h1 := h j (by simpa using (Array.getElem?_eq_some_iff.1 hj).1)
  simp only [hj, hl, Bool.not_true, Bool.false_or] at h1
  obtain ⟨q, hq, rfl⟩ := Array.mem_iff_getElem.1 he
  have h2 := (Array.all_eq_true.1 h1) q hq
  simpa [hb] using h2
theorem getD_both_true {listed : Array Bool} {i : Nat} (h : listed.getD i false = true) : listed.getD i true = true := by
  by_cases hi : i < listed.size
  · simpa [Array.getD, hi] using h
  · simp [Array.getD, hi]
theorem closed_set {listed : Array Bool} (h : ClosedR md ops listed) {i : Nat} (hi : i ∈ Region.ready md ops listed) : ClosedR md ops (listed.setIfInBounds i true) := by
  intro j oj hj hl e he hb
  have up : ∀ q, listed.getD q true = true → (listed.setIfInBounds i true).getD q true = true := fun q hq => by
    by_cases e : i = q
    · subst e
      by_cases hs : i < listed.size
      · simp [Array.getD, hs]
      · simp [Array.getD, hs]
    · rw [getD_set_ne true e]; exact hq
  by_cases hji : i = j
  · subst hji
    obtain ⟨_, o', ho', hall⟩ := mem_ready.1 hi
    have : oj = o' := Option.some.inj (hj.symm.trans ho')
    subst this
    exact up _ (getD_both_true (hall e he hb))
  · rw [getD_set_ne true hji] at hl
    exact up _ (h j oj hj hl e he hb)
/-- a path of forerunners -/
def pathB (md : Region.Mode) (ops : Array Oper) (i : Nat) : Nat → List Nat → Bool
  | q, [] => Region.waitsFor md ops q i
  | q, x :: xs => Region.waitsFor md ops q x && pathB md ops i x xs
theorem path_listed {i : Nat} {listed : Array Bool} (hc : ClosedR md ops listed) : ∀ (xs : List Nat) (q : Nat), pathB md ops i q xs = true → (∃ oq, ops[q]? = some oq) → listed.getD q true = true → listed.getD i true = true
  | [], q, h, _, hq => by
    obtain ⟨oj, hoj, e, he, hb, hon⟩ := Region.waitsFor_spec h
    rw [← hon]; exact hc q oj hoj hq e he hb
  | x :: xs, q, h, _, hq => by
    simp only [pathB, Bool.and_eq_true] at h
    obtain ⟨oj, hoj, e, he, hb, hon⟩ := Region.waitsFor_spec h.1
    have hx : listed.getD x true = true := by rw [← hon]; exact hc q oj hoj hq e he hb
    cases xs with
    | nil =>
      obtain ⟨ox, hox, -⟩ := Region.waitsFor_spec h.2
      exact path_listed hc [] x h.2 ⟨ox, hox⟩ hx
    | cons y ys =>
      have h3 := h.2
      simp only [pathB, Bool.and_eq_true] at h3
      obtain ⟨ox, hox, -⟩ := Region.waitsFor_spec h3.1
      exact path_listed hc (y :: ys) x h.2 ⟨ox, hox⟩ hx
theorem not_ready_path {i : Nat} {listed : Array Bool} {xs : List Nat} (hc : ClosedR md ops listed) (hp : pathB md ops i p xs = true) (hun : listed.getD i true = false) : p ∉ Region.ready md ops listed := by
  intro hr
  obtain ⟨_, oj, hoj, hall⟩ := mem_ready.1 hr
  have key : listed.getD i true = true := by
    cases xs with
    | nil =>
      obtain ⟨oj', hoj', e, he, hb, hon⟩ := Region.waitsFor_spec hp
      have : oj = oj' := Option.some.inj (hoj.symm.trans hoj')
      subst this
      rw [← hon]; exact getD_both_true (hall e he hb)
    | cons x xs =>
      simp only [pathB, Bool.and_eq_true] at hp
      obtain ⟨oj', hoj', e, he, hb, hon⟩ := Region.waitsFor_spec hp.1
      have : oj = oj' := Option.some.inj (hoj.symm.trans hoj')
      subst this
      have hx : listed.getD x true = true := by rw [← hon]; exact getD_both_true (hall e he hb)
      have hex : ∃ ox, ops[x]? = some ox := by
        cases xs with
        | nil =>
          obtain ⟨ox, hox, -⟩ := Region.waitsFor_spec hp.2
          exact ⟨ox, hox⟩
        | cons y ys =>
          have h3 := hp.2
          simp only [pathB, Bool.and_eq_true] at h3
          obtain ⟨ox, hox, -⟩ := Region.waitsFor_spec h3.1
          exact ⟨ox, hox⟩
      exact path_listed hc xs x hp.2 hex hx
  rw [key] at hun
  cases hun
theorem wpAnyP_firstT {i : Nat} {oi : Oper} {v : Value} {xs : List Nat} (hi : ops[i]? = some oi) (hsel : ∀ (j : Nat) (o : Oper) cs b, ops[j]? = some o → o.op ≠ .select cs b)
    (hQ : ∀ c a w, Q (.panic c) (a.put oi.dst v) w → Q (.panic c) a w) (hw : pathB md ops i p xs = true) (hip : p ≠ i) :
    ∀ (fuel : Nat) (listed : Array Bool) (a : Act) (w : World), ClosedR md ops listed →
      (∀ j oj, ops[j]? = some oj → j ≠ i → listed.getD j true = false → (∀ e ∈ oj.after, Region.binds md e = true → e.on ≠ i) → oi.apart ops oj = true) →
      i ∈ Region.ready md ops listed → YieldsIf P ops S oi v a → listed.getD p true = false → S w →
      wpAnyP P md ops Q S p fuel (listed.setIfInBounds i true) (a.put oi.dst v) w → wpAnyP P md ops Q S p (fuel + 1) listed a w := by
  intro fuel
  induction fuel with
  | zero =>
    intro listed a w hc _ hr hy hp hS H
    refine ⟨fun h => (by rw [h] at hr; cases hr), fun j hj => ?_⟩
    by_cases hji : j = i
    · subst hji; exact hy.wpOp hi hS ⟨fun _ => hS, H⟩
    · have := ready_mono hj hji
      rw [H.1] at this
      cases this
  | succ fuel ih =>
    intro listed a w hc hfree hr hy hp hS H
    refine ⟨fun h => (by rw [h] at hr; cases hr), fun j hj => ?_⟩
    by_cases hji : j = i
    · subst hji; exact hy.wpOp hi hS ⟨fun _ => hS, H⟩
    · have hun := (mem_ready.1 hr).1
      have h1 := H.2 j (ready_mono hj hji)
      obtain ⟨hjun, oj, hoj, hall⟩ := mem_ready.1 hj
      have hnot : ∀ e ∈ oj.after, Region.binds md e = true → e.on ≠ i := fun e he hb heq => by
        have h9 := hall e he hb
        rw [heq, getD_both hun] at h9
        cases h9
      have h2 := wpOp_putIf hoj (hfree j oj hoj hji hjun hnot) (fun cs b => hsel i oi cs b hi) (fun cs b => hsel j oj cs b hoj) hQ hy h1
      have hfree' : ∀ k ok, ops[k]? = some ok → k ≠ i → (listed.setIfInBounds j true).getD k true = false →
          (∀ e ∈ ok.after, Region.binds md e = true → e.on ≠ i) → oi.apart ops ok = true := fun k ok hk hki hun' hno => hfree k ok hk hki (getD_unset hun') hno
      refine wpOp_mono (fun a' w' h3 => ?_) h2
      have hjp : j ≠ p := fun e => not_ready_path hc hw hun (e ▸ hj)
      have hpp : (listed.setIfInBounds j true).getD p true = false := by rw [getD_set_ne true hjp]; exact hp
      have hS' : S w' := h3.2.1 (by rw [Array.setIfInBounds_comm _ _ (Ne.symm hji), getD_set_ne true (Ne.symm hip)]; exact hpp)
      refine ⟨fun _ => hS', ih (listed.setIfInBounds j true) a' w' (closed_set hc hj) hfree' (ready_mono hr (Ne.symm hji)) h3.1 hpp hS' ?_⟩
      rw [Array.setIfInBounds_comm _ _ hji]
      exact h3.2.2
/-- a load that comes ahead of p along a path -/
theorem P_takeT (i d : Nat) (v : Value) (l' : Array Bool) (xs : List Nat) {oi : Oper} {fuel : Nat} {listed : Array Bool} {ts : Array Value} {ds : List Deferred} {w : World} (hi : ops[i]? = some oi) (hd : oi.dst = some d) (hl : listed.setIfInBounds i true = l')
    (hs : Region.noSelect ops = true) (hf : Region.free md ops listed i = true) (hr : (Region.ready md ops listed).contains i = true) (hz : pathB md ops i p xs = true) (hc : closedB md ops listed = true) (hp : listed.getD p true = false) (hip : p ≠ i)
    (hQ : ∀ c a w, Q (.panic c) (a.put oi.dst v) w → Q (.panic c) a w) (hy : YieldsIf P ops S oi v ⟨ts, ds⟩) (hS : S w)
    (h : wpAnyP P md ops Q S p fuel l' ⟨ts.setIfInBounds d v, ds⟩ w) : wpAnyP P md ops Q S p (fuel + 1) listed ⟨ts, ds⟩ w := by
  subst hl
  refine wpAnyP_firstT hi (Region.noSelect_spec hs) hQ hz hip fuel listed _ w (closedB_spec hc) (Region.free_spec hi hf) (by simpa using hr) hy hp hS ?_
  rw [hd]; exact h
theorem P_twoS (i j : Nat) (l1 l2 : Array Bool) {oi oj : Oper} {fuel : Nat} {listed : Array Bool} {a : Act} {w : World} (hi : ops[i]? = some oi) (hj : ops[j]? = some oj) (e1 : listed.setIfInBounds i true = l1) (e2 : listed.setIfInBounds j true = l2) (hr : Region.ready md ops listed = [i, j]) (gi : oi.guard = none) (gj : oj.guard = none)
    (h1 : ∀ K : Act → World → Prop, (∀ a' w', S w' → wpAnyP P md ops Q S p fuel l1 a' w' → K a' w') → oi.wp P a w K Q)
    (h2 : ∀ K : Act → World → Prop, (∀ a' w', S w' → wpAnyP P md ops Q S p fuel l2 a' w' → K a' w') → oj.wp P a w K Q) : wpAnyP P md ops Q S p (fuel + 1) listed a w := by
  subst e1; subst e2
  refine ⟨fun h0 => (by rw [hr] at h0; cases h0), fun q hq => ?_⟩
  rw [hr] at hq
  simp only [List.mem_cons, List.not_mem_nil, or_false] at hq
  rcases hq with rfl | rfl
  · unfold wpOp
    simp only [hi]
    rw [if_pos (by simp [Region.wanted, gi])]
    exact .inl (h1 _ fun _ _ q1 q2 => ⟨fun _ => q1, q2⟩)
  · unfold wpOp
    simp only [hj]
    rw [if_pos (by simp [Region.wanted, gj])]
    exact .inl (h2 _ fun _ _ q1 q2 => ⟨fun _ => q1, q2⟩)
end
end Go.Proofs.Ytpdalbckmfadbaa

namespace Go.Proofs.Ytpdalbckmfadbaa
open Go.RowKit
set_option linter.unusedVariables false
def noPanic (Q : Exit → Act → World → Prop) : Exit → Act → World → Prop
  | .panic _, _, _ => False
  | e, a, w => Q e a w
theorem wp_nopanic {P : Program} {c : Code} {Q : Exit → Act → World → Prop} {a : Act} {w : World} (h : c.wp P (noPanic Q) a w) : c.wp P Q a w :=
  Code.wp_mono (fun e a w h => by cases e <;> first | exact h | exact h.elim) h
theorem noPanic_normal {Q : Exit → Act → World → Prop} {a : Act} {w : World} (h : Q .normal a w) : noPanic Q .normal a w := h
/-- what has run, told by a number -/
def bz (n m : Nat) : Array Bool := ((List.range n).map m.testBit).toArray
theorem z0 {α : Type} {l : List α} {i : Nat} {a : α} : l.toArray.setIfInBounds i a = (l.set i a).toArray := List.setIfInBounds_toArray _ _ _
theorem z1 {α : Type} {x a : α} {xs : List α} : (x :: xs).set 0 a = a :: xs := List.set_cons_zero
theorem z2 {α : Type} {x a : α} {xs : List α} {n : Nat} : (x :: xs).set (n + 1) a = x :: xs.set n a := List.set_cons_succ
def ckI (md : Region.Mode) (ops : Array Oper) (n m m' i : Nat) : Bool := decide ((bz n m).setIfInBounds i true = bz n m') && (Region.ready md ops (bz n m)).contains i
def ckD (ops : Array Oper) (i d : Nat) : Bool := match ops[i]? with
  | some o => decide (o.dst = some d)
  | none => false
def ckW (md : Region.Mode) (ops : Array Oper) (p n m m' i d : Nat) : Bool := ckI md ops n m m' i && ckD ops i d && Region.noSelect ops && Region.free md ops (bz n m) i && decide (p ≠ i)
def ckT (md : Region.Mode) (ops : Array Oper) (p n m m' i d : Nat) (xs : List Nat) : Bool := ckW md ops p n m m' i d && pathB md ops i p xs && closedB md ops (bz n m) && decide ((bz n m).getD p true = false)
def ckO (md : Region.Mode) (ops : Array Oper) (n m m' i : Nat) : Bool := decide ((bz n m).setIfInBounds i true = bz n m') && decide (Region.ready md ops (bz n m) = [i])
section
variable {P : Program} {ops : Array Oper} {Q : Exit → Act → World → Prop} {md : Region.Mode} {S : World → Prop} {p n m fuel : Nat} {ts : Array Value} {ds : List Deferred} {w : World} {oi : Oper} {a : Act}
theorem ckD_of {i d : Nat} (h : ckD ops i d = true) (hi : ops[i]? = some oi) : oi.dst = some d := by
  unfold ckD at h; rw [hi] at h; exact of_decide_eq_true h
theorem ckW_of {m' i d : Nat} (h : ckW md ops p n m m' i d = true) (hi : ops[i]? = some oi) : ((bz n m).setIfInBounds i true = bz n m' ∧ (Region.ready md ops (bz n m)).contains i = true) ∧ oi.dst = some d ∧ Region.noSelect ops = true ∧ Region.free md ops (bz n m) i = true ∧ p ≠ i := by
  unfold ckW at h
  simp only [Bool.and_eq_true, decide_eq_true_eq, ckI] at h
  obtain ⟨⟨⟨⟨⟨h1, h2⟩, h3⟩, h4⟩, h5⟩, h6⟩ := h
  exact ⟨⟨h1, h2⟩, ckD_of h3 hi, h4, h5, h6⟩
theorem Q_start {id : Nat} (S : World → Prop) (p n : Nat) (h : wpAnyP P .any ops (noPanic Q) S p n (bz n 0) a w.drew) (hn : ops.size = n := by kernel_rfl) (hl : Array.replicate n false = bz n 0 := by kernel_rfl) (hm : P.follows .mixedOrders = true := by kernel_rfl) : (Code.region id ops true).wp P Q a w :=
  wp_nopanic (P_start S p n (bz n 0) hn hl hm h)
/-- an operation that asks nothing of the world -/
theorem Q_W (i d m' : Nat) (v : Value) (hi : ops[i]? = some oi) (hS : S w) (h : wpAnyP P md ops (noPanic Q) S p fuel (bz n m') ⟨ts.setIfInBounds d v, ds⟩ w)
    (hc : ckW md ops p n m m' i d = true := by kernel_rfl) (hy : YieldsIf P ops (fun _ => True) oi v ⟨ts, ds⟩ := by exact .inl ⟨by rfl, fun _ _ => by go_simp⟩) : wpAnyP P md ops (noPanic Q) S p (fuel + 1) (bz n m) ⟨ts, ds⟩ w := by
  obtain ⟨⟨h1, h2⟩, h3, h4, h5, h6⟩ := ckW_of hc hi
  exact P_takeW i d v _ hi h3 h1 h4 h5 h2 h6 (fun _ _ _ h => h) hy hS h
/-- a load, taken while a path of operations stands between it and p -/
theorem Q_T (i d m' : Nat) (v : Value) (xs : List Nat) (hi : ops[i]? = some oi) (hS : S w) (hy : YieldsIf P ops S oi v ⟨ts, ds⟩) (h : wpAnyP P md ops (noPanic Q) S p fuel (bz n m') ⟨ts.setIfInBounds d v, ds⟩ w)
    (hc : ckT md ops p n m m' i d xs = true := by kernel_rfl) : wpAnyP P md ops (noPanic Q) S p (fuel + 1) (bz n m) ⟨ts, ds⟩ w := by
  unfold ckT at hc
  simp only [Bool.and_eq_true, decide_eq_true_eq] at hc
  obtain ⟨⟨⟨hc, g1⟩, g2⟩, g3⟩ := hc
  obtain ⟨⟨h1, h2⟩, h3, h4, h5, h6⟩ := ckW_of hc hi
  exact P_takeT i d v _ xs hi h3 h1 h4 h5 h2 g1 g2 g3 h6 (fun _ _ _ h => h) hy hS h
/-- as Q_W, behind p -/
theorem Q_X (i d m' : Nat) (v : Value) (hi : ops[i]? = some oi) (h : wpAnyP P md ops (noPanic Q) S p fuel (bz n m') ⟨ts.setIfInBounds d v, ds⟩ w)
    (hc : ckW md ops p n m m' i d = true := by kernel_rfl) (hp : (bz n m).getD p true = true := by kernel_rfl) (hy : YieldsIf P ops (fun _ => True) oi v ⟨ts, ds⟩ := by exact .inl ⟨by rfl, fun _ _ => by go_simp⟩) : wpAnyP P md ops (noPanic Q) S p (fuel + 1) (bz n m) ⟨ts, ds⟩ w := by
  obtain ⟨⟨h1, h2⟩, h3, h4, h5, h6⟩ := ckW_of hc hi
  exact P_takeX i d v _ hi h3 h1 h4 h5 h2 h6 (fun _ _ _ h => h) hy hp h
/-- the only one that is ready -/
theorem Q_1 (i m' : Nat) (hi : ops[i]? = some oi) (h : ∀ K : Act → World → Prop, (∀ a' w', wpAnyP P md ops Q S p fuel (bz n m') a' w' → K a' w') → oi.wp P a w K Q)
    (hc : ckO md ops n m m' i = true := by kernel_rfl) (hg : Region.wanted oi (yielded ops a.tmps) = true := by rfl) (hp : (bz n m').getD p true = true := by kernel_rfl) : wpAnyP P md ops Q S p (fuel + 1) (bz n m) a w := by
  unfold ckO at hc
  simp only [Bool.and_eq_true, decide_eq_true_eq] at hc
  exact P_oneG i _ hi hc.1 hc.2 hg hp h
theorem Q_1S (i m' : Nat) (hi : ops[i]? = some oi) (h : ∀ K : Act → World → Prop, (∀ a' w', S w' → wpAnyP P md ops Q S p fuel (bz n m') a' w' → K a' w') → oi.wp P a w K Q)
    (hc : ckO md ops n m m' i = true := by kernel_rfl) (hg : oi.guard = none := by rfl) : wpAnyP P md ops Q S p (fuel + 1) (bz n m) a w := by
  unfold ckO at hc
  simp only [Bool.and_eq_true, decide_eq_true_eq] at hc
  exact P_oneS i _ hi hc.1 hc.2 hg h
theorem Q_2S (i j m1 m2 : Nat) {oj : Oper} (hi : ops[i]? = some oi) (hj : ops[j]? = some oj)
    (h1 : ∀ K : Act → World → Prop, (∀ a' w', S w' → wpAnyP P md ops Q S p fuel (bz n m1) a' w' → K a' w') → oi.wp P a w K Q)
    (h2 : ∀ K : Act → World → Prop, (∀ a' w', S w' → wpAnyP P md ops Q S p fuel (bz n m2) a' w' → K a' w') → oj.wp P a w K Q)
    (e1 : (bz n m).setIfInBounds i true = bz n m1 := by kernel_rfl) (e2 : (bz n m).setIfInBounds j true = bz n m2 := by kernel_rfl) (hr : Region.ready md ops (bz n m) = [i, j] := by kernel_rfl) (gi : oi.guard = none := by rfl) (gj : oj.guard = none := by rfl) : wpAnyP P md ops Q S p (fuel + 1) (bz n m) a w :=
  P_twoS i j _ _ hi hj e1 e2 hr gi gj h1 h2
theorem Q_end (h : Q .normal a w) (hr : Region.ready md ops (bz n m) = [] := by kernel_rfl) : wpAnyP P md ops (noPanic Q) S p fuel (bz n m) a w := P_done hr (noPanic_normal h) fuel
end
end Go.Proofs.Ytpdalbckmfadbaa

namespace Go.Proofs.Ytpdalbckmfadbaa
open Go.RowKit
set_option linter.unusedVariables false
def Ob.eT (o : Ob) (i : Nat) : Int := ext (o.tot i - gi o.s i - gi o.a i)
def Ob.bT (o : Ob) (i : Nat) : Int := if o.tot i < 0 then 1 else 0
def vF (o : Ob) (i bit k : Nat) : Int := (brT.take k).foldl (o.vB i bit (o.f i) (o.b (i + 1))) UU
theorem vF_succ (o : Ob) (i bit k : Nat) (hk : k < 16) : vF o i bit (k + 1) = o.vB i bit (o.f i) (o.b (i + 1)) (vF o i bit k) (brN k) := by
  unfold vF; rw [br_take k hk, List.foldl_append]; rfl
theorem vF_tot (o : Ob) (i : Nat) : o.tot i = (vF o i 0 16 - vF o i 1 16).tdiv 2 := rfl
theorem vF_bd {o : Ob} (h : o.ok) (i bit : Nat) (hi : i < o.s.length) : ∀ k, k ≤ 16 → -1125899906842624 ≤ vF o i bit k ∧ vF o i bit k ≤ 10000000
  | 0, _ => by show -1125899906842624 ≤ UU ∧ UU ≤ 10000000; rw [UU_eq]; omega
  | k + 1, hk => by
    have ih := vF_bd h i bit hi k (by omega)
    rw [vF_succ o i bit k (by omega)]
    unfold Ob.vB
    split
    · rename_i hc
      have hmem := brN_mem k (by omega)
      obtain ⟨b1, -, -, b4⟩ := br_bd _ hmem
      have ht := o.term_bd h i hi _ hmem
      have h1 := h.2.1
      have h2 := h.2.2.1
      have f1 := (f_met h i (by omega)).bd _ b1
      have f2 := (bd_met h (o.s.length - (i + 1)) (by omega)).bd _ b4
      have hc1 := hc.2.1
      have hc2 := hc.2.2
      have e2 : gi (o.b (i + 1)) (brN k).tt = gi (o.bd (o.s.length - (i + 1))) (brN k).tt := rfl
      rw [UU_eq] at *
      omega
    · exact ih
def rowT (o : Ob) (i : Nat) (A : Option Addr) (c : Nat) : RowD := ⟨.i64, 3, A, i, c, (List.range i).map o.tot⟩
def rowE (o : Ob) (i : Nat) (A : Option Addr) (c : Nat) : RowD := ⟨.i64, 3, A, i, c, (List.range i).map o.eT⟩
def rowB (o : Ob) (i : Nat) (A : Option Addr) (c : Nat) : RowD := ⟨.u8, 5, A, i, c, (List.range i).map o.bT⟩
/-- what holds all through -/
structure Rq (w : World) (bf bg N bA cap b6 b12 B0 : Nat) (o : Ob) (W : World) (vs : List Value) (r1 r2 r3 : RowD) : Prop where
  sw : Sw w bf bg N bA cap W o.f o.b
  d6 : Blk W b6 62 zero28
  d12 : Blk W b12 62 vs
  tt : TT B0 W r1 r2 r3
  sz : B0 ≤ W.heap.size
structure RqS (w : World) (bf bg bA b6 b12 B0 : Nat) : Prop where
  hf : bf < B0
  hg : bg < B0
  hA : bA < B0
  h6 : b6 < b12
  h12 : b12 < B0
  hw6 : w.heap.size ≤ b6
  hfge : w.heap.size ≤ bf
section
variable {w W W' : World} {bf bg N bA cap b6 b12 B0 : Nat} {o : Ob} {vs vs' : List Value} {r1 r2 r3 q1 q2 q3 : RowD}
theorem Rq.call (h : Rq w bf bg N bA cap b6 b12 B0 o W vs r1 r2 r3) (hB : Below W.heap.size W W') : Rq w bf bg N bA cap b6 b12 B0 o W' vs r1 r2 r3 := ⟨h.sw.call hB, h.d6.below hB, h.d12.below hB, h.tt.below hB, Nat.le_trans h.sz hB.size⟩
theorem Rq.grow (h : Rq w bf bg N bA cap b6 b12 B0 o W vs r1 r2 r3) (hs : RqS w bf bg bA b6 b12 B0) {row : Option Nat} (hg : W.grownBy W' row) (hr : ∀ g, row = some g → B0 ≤ g) (ht : TT B0 W' q1 q2 q3) : Rq w bf bg N bA cap b6 b12 B0 o W' vs q1 q2 q3 := by
  have a1 := hs.h12
  have a2 := hs.h6
  have a3 := hs.hw6
  exact ⟨h.sw.grownR hg hr hs.hf hs.hg hs.hA (by omega), h.d6.grownR hg hr (by omega), h.d12.grownR hg hr hs.h12, ht, Nat.le_trans h.sz hg.size⟩
theorem TT.grownN {base : Nat} (h : TT base W r1 r2 r3) {g : Nat} (hg : W.grownBy W' (some g)) (h1 : r1.A ≠ none → blk r1.A ≠ g) (h2 : r2.A ≠ none → blk r2.A ≠ g) (h3 : r3.A ≠ none → blk r3.A ≠ g) : TT base W' r1 r2 r3 :=
  ⟨Ownv.grown h.o1 hg (fun hA => by simpa using h1 hA), Ownv.grown h.o2 hg (fun hA => by simpa using h2 hA), Ownv.grown h.o3 hg (fun hA => by simpa using h3 hA), h.a12, h.a13, h.a23⟩
/-- a store into the result's own cell -/
theorem Rq.put12 (h : Rq w bf bg N bA cap b6 b12 B0 o W vs r1 r2 r3) (hs : RqS w bf bg bA b6 b12 B0) (hne : bf ≠ b12 ∧ bg ≠ b12 ∧ bA ≠ b12) (j : Nat) (v : Value) : Rq w bf bg N bA cap b6 b12 B0 o (W.setCell ⟨b12, j, none⟩ v) (vs.set j v) r1 r2 r3 := by
  have hg := grownBy_set W b12 j v
  have a2 := hs.h6
  have a3 := hs.hw6
  refine ⟨⟨⟨(h.sw.f.blk.other (Ne.symm hne.1) j v), h.sw.f.l8⟩, ⟨(h.sw.g.blk.other (Ne.symm hne.2.1) j v), h.sw.g.l8⟩, h.sw.r.grown hg (fun _ => by simp [blk]; exact hne.2.2), h.sw.bl.setCell (by show _ ≤ b12; omega) _⟩, h.d6.other (by omega) j v, h.d12.set j v, h.tt.grown hg hs.h12, Nat.le_trans h.sz hg.size⟩
end
theorem info56 : (Try.prog.info? 136).map (·.size) = some 2 := by kernel_rfl
theorem map_range_succ (g : Nat → Int) (i : Nat) : (List.range (i + 1)).map g = (List.range i).map g ++ [g i] := by simp [List.range_succ]
def vP (o : Ob) (i k : Nat) : List Int := [vF o i 0 k, vF o i 1 k]
theorem vP_gi (o : Ob) (i k bit : Nat) (h : bit < 2) : gi (vP o i k) bit = vF o i bit k := by
  rcases (by omega : bit = 0 ∨ bit = 1) with rfl | rfl <;> rfl
theorem vP_set (o : Ob) (i k : Nat) (hk : k < 16) (h1 : UU < gi (o.f i) (brN k).fr) (h2 : UU < gi (o.b (i + 1)) (brN k).tt) :
    (vP o i k).set (brN k).bt (max (gi (vP o i k) (brN k).bt) (gi (o.f i) (brN k).fr + o.term i (brN k) + gi (o.b (i + 1)) (brN k).tt)) = vP o i (k + 1) := by
  have hb := (br_bd _ (brN_mem k hk)).2.1
  unfold vP
  rw [vF_succ o i 0 k hk, vF_succ o i 1 k hk]
  unfold Ob.vB
  rcases (by omega : (brN k).bt = 0 ∨ (brN k).bt = 1) with e | e
  · rw [if_pos ⟨e, h1, h2⟩, if_neg (by rw [e]; simp), e]; rfl
  · rw [if_neg (by rw [e]; simp), if_pos ⟨e, h1, h2⟩, e]; rfl
theorem vP_same (o : Ob) (i k : Nat) (hk : k < 16) (h : ¬ (UU < gi (o.f i) (brN k).fr ∧ UU < gi (o.b (i + 1)) (brN k).tt)) : vP o i (k + 1) = vP o i k := by
  unfold vP
  rw [vF_succ o i 0 k hk, vF_succ o i 1 k hk]
  unfold Ob.vB
  rw [if_neg (fun c => h c.2), if_neg (fun c => h c.2)]
theorem rowT_succ (o : Ob) (i : Nat) (A : Option Addr) (c g c' : Nat) (v : Int) (hv : v = o.tot i) : ({ rowT o i A c with A := some ⟨g, 0, none⟩, n := i + 1, c := c', xs := (rowT o i A c).xs ++ [v] } : RowD) = rowT o (i + 1) (some ⟨g, 0, none⟩) c' := by
  subst hv; unfold rowT; rw [map_range_succ]
theorem rowE_succ (o : Ob) (i : Nat) (A : Option Addr) (c g c' : Nat) (v : Int) (hv : v = o.eT i) : ({ rowE o i A c with A := some ⟨g, 0, none⟩, n := i + 1, c := c', xs := (rowE o i A c).xs ++ [v] } : RowD) = rowE o (i + 1) (some ⟨g, 0, none⟩) c' := by
  subst hv; unfold rowE; rw [map_range_succ]
theorem rowB_succ (o : Ob) (i : Nat) (A : Option Addr) (c g c' : Nat) (v : Int) (hv : v = o.bT i) : ({ rowB o i A c with A := some ⟨g, 0, none⟩, n := i + 1, c := c', xs := (rowB o i A c).xs ++ [v] } : RowD) = rowB o (i + 1) (some ⟨g, 0, none⟩) c' := by
  subst hv; unfold rowB; rw [map_range_succ]
section
variable {W : World} {B0 i gx : Nat} {v : Int} {A : Option Addr} {c : Nat} {r2 r3 : RowD} {op : Oper} {ts : Array Value} {ds : List Deferred} {K : Act → World → Prop} {Q : Exit → Act → World → Prop} {o : Ob}
theorem wp_apT (d : Nat) (s x : Operand) (ho : op.op = .call { callee := .builtin .append, args := #[s, x], argTypes := #[22, 22] }) (hd : op.dst = some d) (hs : (⟨ts, ds⟩ : Act).eval s = .slice A i c) (hx : (⟨ts, ds⟩ : Act).eval x = .slice (some ⟨gx, 0, none⟩) 1 1)
    (T : TT B0 W (rowT o i A c) r2 r3) (hX : W.heap[gx]? = some (.cells #[.int .i64 v] 3 (0, 0))) (hn : i ≤ 10000) (hb : B0 ≤ W.heap.size) (hv : v = o.tot i)
    (h : ∀ g c' w', TT B0 w' (rowT o (i + 1) (some ⟨g, 0, none⟩) c') r2 r3 → W.grownBy w' (rowT o i A c).val.ownBlock → K ⟨ts.setIfInBounds d (.slice (some ⟨g, 0, none⟩) (i + 1) c'), ds⟩ w') : op.wp Try.prog ⟨ts, ds⟩ W K Q :=
  wp_appT (r1 := rowT o i A c) s x 22 ho el22 hs hx T hX (by show (i + 1) * 8 ≤ _; omega) (by show i + 1 ≤ _; unfold maxLen; omega) hb fun g c' w' h1 h2 => by
    rw [hd]; exact h g c' w' (by rw [← rowT_succ o i A c g c' v hv]; exact h1) h2
theorem wp_apE (d : Nat) (s x : Operand) (ho : op.op = .call { callee := .builtin .append, args := #[s, x], argTypes := #[22, 22] }) (hd : op.dst = some d) (hs : (⟨ts, ds⟩ : Act).eval s = .slice A i c) (hx : (⟨ts, ds⟩ : Act).eval x = .slice (some ⟨gx, 0, none⟩) 1 1)
    (T : TT B0 W (rowE o i A c) r2 r3) (hX : W.heap[gx]? = some (.cells #[.int .i64 v] 3 (0, 0))) (hn : i ≤ 10000) (hb : B0 ≤ W.heap.size) (hv : v = o.eT i)
    (h : ∀ g c' w', TT B0 w' (rowE o (i + 1) (some ⟨g, 0, none⟩) c') r2 r3 → W.grownBy w' (rowE o i A c).val.ownBlock → K ⟨ts.setIfInBounds d (.slice (some ⟨g, 0, none⟩) (i + 1) c'), ds⟩ w') : op.wp Try.prog ⟨ts, ds⟩ W K Q :=
  wp_appT (r1 := rowE o i A c) s x 22 ho el22 hs hx T hX (by show (i + 1) * 8 ≤ _; omega) (by show i + 1 ≤ _; unfold maxLen; omega) hb fun g c' w' h1 h2 => by
    rw [hd]; exact h g c' w' (by rw [← rowE_succ o i A c g c' v hv]; exact h1) h2
theorem wp_apB (d : Nat) (s x : Operand) (ho : op.op = .call { callee := .builtin .append, args := #[s, x], argTypes := #[24, 24] }) (hd : op.dst = some d) (hs : (⟨ts, ds⟩ : Act).eval s = .slice A i c) (hx : (⟨ts, ds⟩ : Act).eval x = .slice (some ⟨gx, 0, none⟩) 1 1)
    (T : TT B0 W (rowB o i A c) r2 r3) (hX : W.heap[gx]? = some (.cells #[.int .u8 v] 5 (0, 0))) (hn : i ≤ 10000) (hb : B0 ≤ W.heap.size) (hv : v = o.bT i)
    (h : ∀ g c' w', TT B0 w' (rowB o (i + 1) (some ⟨g, 0, none⟩) c') r2 r3 → W.grownBy w' (rowB o i A c).val.ownBlock → K ⟨ts.setIfInBounds d (.slice (some ⟨g, 0, none⟩) (i + 1) c'), ds⟩ w') : op.wp Try.prog ⟨ts, ds⟩ W K Q :=
  wp_appT (r1 := rowB o i A c) s x 24 ho el26 hs hx T hX (by show (i + 1) * 1 ≤ _; omega) (by show i + 1 ≤ _; unfold maxLen; omega) hb fun g c' w' h1 h2 => by
    rw [hd]; exact h g c' w' (by rw [← rowB_succ o i A c g c' v hv]; exact h1) h2
/-- a literal that waits stays, when a row that was there before it grows -/
theorem lit_keep {w' : World} {r : RowD} {base : Nat} {x : Obj} (hX : W.heap[gx]? = some x) (hr : r.own W base) (hlt : r.A ≠ none → blk r.A ≠ gx) (hg : W.grownBy w' r.val.ownBlock) : w'.heap[gx]? = some x :=
  (hg.block gx (heap_lt' hX) (fun e => by
    obtain ⟨h1, h2⟩ := own_blk gx e.symm
    exact hlt h1 h2)).trans hX
end
def RDecOk (o : Ob) (w : World) (e : Ending) (w' : World) : Prop := ∃ (A1 A2 A3 : Option Addr) (c1 c2 c3 : Nat), e = .returned (.tuple #[.agg #[.slice A1 o.a.length c1, .slice A2 o.a.length c2, .slice A3 o.a.length c3], .int .i64 0]) ∧
  Own .i64 3 w' w.heap.size A1 o.a.length c1 ((List.range o.a.length).map o.tot) ∧ Own .i64 3 w' w.heap.size A2 o.a.length c2 ((List.range o.a.length).map o.eT) ∧ Own .u8 5 w' w.heap.size A3 o.a.length c3 ((List.range o.a.length).map o.bT) ∧ Below w.heap.size w w'
end Go.Proofs.Ytpdalbckmfadbaa

