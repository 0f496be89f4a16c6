/-
  Pieces of the law on totals by their definition. Condition: none.
-/
import Derived.Test.YtmdjclfmhndjnaaEh
namespace Go.Proofs.Ytmdjclfmhndjnaa
open Go.RowKit
set_option linter.unusedVariables false
/-- what the law holds of the greatest metric of a bit, behind n inputs -/
structure Bs (o : Ob) (i n : Nat) (x s : Bool) (v : Int) : Prop where
  no : s = false → v = 0 ∧ ∀ q, q < n → q.testBit i ≠ x
  yes : s = true → (∃ q, q < n ∧ q.testBit i = x ∧ v = o.mt (bitsN q o.k) o.s.length) ∧ ∀ q, q < n → q.testBit i = x → o.mt (bitsN q o.k) o.s.length ≤ v
theorem Bs.zero (o : Ob) (i : Nat) (x : Bool) : Bs o i 0 x false 0 := ⟨fun _ => ⟨rfl, fun q hq => by omega⟩, fun h => by cases h⟩
theorem Bs.pass {o : Ob} {i n : Nat} {x s : Bool} {v : Int} (h : Bs o i n x s v) (hx : n.testBit i ≠ x) : Bs o i (n + 1) x s v :=
  ⟨fun hs => ⟨(h.no hs).1, fun q hq => by
    rcases (by omega : q < n ∨ q = n) with h1 | rfl
    · exact (h.no hs).2 q h1
    · exact hx⟩, fun hs => ⟨by
    obtain ⟨q, h1, h2⟩ := (h.yes hs).1
    exact ⟨q, by omega, h2⟩, fun q hq hb => by
    rcases (by omega : q < n ∨ q = n) with h1 | rfl
    · exact (h.yes hs).2 q h1 hb
    · exact absurd hb hx⟩⟩
theorem Bs.take {o : Ob} {i n : Nat} {x s : Bool} {v m : Int} (h : Bs o i n x s v) (hx : n.testBit i = x) (hm : m = o.mt (bitsN n o.k) o.s.length) (hv : s = false ∨ v < m) : Bs o i (n + 1) x true m :=
  ⟨fun hs => by (cases hs), fun _ => ⟨⟨n, by omega, hx, hm⟩, fun q hq hb => by
    rcases (by omega : q < n ∨ q = n) with h1 | rfl
    · cases s with
      | false => exact absurd hb ((h.no rfl).2 q h1)
      | true =>
        have h3 := (h.yes rfl).2 q h1 hb
        rcases hv with hv | hv
        · cases hv
        · omega
    · omega⟩⟩
theorem Bs.leave {o : Ob} {i n : Nat} {x s : Bool} {v m : Int} (h : Bs o i n x s v) (hm : m = o.mt (bitsN n o.k) o.s.length) (hs : s = true) (hv : m ≤ v) : Bs o i (n + 1) x s v :=
  ⟨fun h1 => by (rw [hs] at h1; cases h1), fun _ => ⟨by
    obtain ⟨q, h1, h2⟩ := (h.yes hs).1
    exact ⟨q, by omega, h2⟩, fun q hq hb => by
    rcases (by omega : q < n ∨ q = n) with h1 | rfl
    · exact (h.yes hs).2 q h1 hb
    · omega⟩⟩
theorem Bs.done {o : Ob} (ho : o.ok) {i : Nat} (hi : i < o.k) {x s : Bool} {v : Int} (h : Bs o i (2 ^ o.k) x s v) : s = true ∧ v = o.val i (bq x) (o.f i) (o.b (i + 1)) := by
  obtain ⟨bs, hl, hb, hv⟩ := val_is ho i hi (bq x) (bq_lt x)
  obtain ⟨n, hn, hbs⟩ := bitsN_all bs
  rw [hl] at hn hbs
  have hnb : n.testBit i = x := by
    have h1 := bitsN_get n o.k i hi
    rw [hbs] at h1
    rw [h1] at hb
    cases hx : n.testBit i <;> cases x <;> simp_all [bq]
  have hst : s = true := by
    cases s with
    | true => rfl
    | false => exact absurd hnb ((h.no rfl).2 n hn)
  refine ⟨hst, ?_⟩
  obtain ⟨⟨q, h1, h2, h3⟩, h4⟩ := h.yes hst
  have h5 := h4 n hn hnb
  rw [hbs, hv] at h5
  have h6 := val_ge ho (bs := bitsN q o.k) (bitsN_len _ _) i hi
  rw [bitsN_get q o.k i hi, h2] at h6
  omega
theorem bitsN_take (n k j : Nat) (h : j < k) : (bitsN n k).take (j + 1) = (bitsN n k).take j ++ [n.testBit j] := by
  rw [List.take_succ_eq_append_getElem (by rw [bitsN_len]; exact h)]
  simp [bitsN]
theorem shr_bit (n j : Nat) : ((n : Int) / (2 ^ j : Int)) % 2 = ib (n.testBit j) := by
  have e : ((n : Int) / (2 ^ j : Int)) % 2 = (((n / 2 ^ j) % 2 : Nat) : Int) := by push_cast; rfl
  rw [e, Nat.testBit_eq_decide_div_mod_eq]
  rcases (by omega : n / 2 ^ j % 2 = 0 ∨ n / 2 ^ j % 2 = 1) with h | h <;> rw [h] <;> rfl
theorem mask64 : ∀ n : Nat, n < 64 → ∀ j : Nat, j < 6 → bits .and .i64 ((n : Int) / 2 ^ j) 1 % 256 = ib (n.testBit j) := by decide +kernel
def BitJ (w0 : World) (bs : List Bool) (n : Nat) (b i : Value) (wr : World) : Prop :=
  ∃ (j : Nat) (A : Option Addr) (c : Nat), j ≤ n ∧ i = .int .i64 j ∧ b = .slice A j c ∧ Own .u8 5 wr w0.heap.size A j c ((bs.take j).map ib) ∧ Below w0.heap.size w0 wr
def bval (b : Bool) : Value := .bool b
structure NI (o : Ob) (i : Nat) (wi : World) (b13 b14 : Nat) (n : Nat) (s0 s1 : Bool) (v0 v1 : Int) (wr : World) : Prop where
  m : Blk wr b13 56 [.int .i64 v0, .int .i64 v1]
  s : Blk wr b14 57 [.bool s0, .bool s1]
  z : Bs o i n false s0 v0
  u : Bs o i n true s1 v1
  bl : Below wi.heap.size wi wr
def NIv (o : Ob) (i : Nat) (wi : World) (b13 b14 : Nat) (x : Value) (wr : World) : Prop := ∃ (n : Nat) (s0 s1 : Bool) (v0 v1 : Int), n ≤ 2 ^ o.k ∧ x = .int .i64 n ∧ NI o i wi b13 b14 n s0 s1 v0 v1 wr
def R28 (b7 b13 i : Nat) (A1 A2 A3 a0 a2 : Option Addr) (x0 x1 x2 t e b s a v0 v1 : Value) (W : World) : Prop :=
  W.cell? ⟨b7, 0, none⟩ = some x0 ∧ W.cell? ⟨b7, 1, none⟩ = some x1 ∧ W.cell? ⟨b7, 2, none⟩ = some x2 ∧ W.cell? (adr A1 i) = some t ∧ W.cell? (adr A2 i) = some e ∧ W.cell? (adr A3 i) = some b ∧ W.cell? (adr a0 i) = some s ∧ W.cell? (adr a2 i) = some a ∧ W.cell? ⟨b13, 0, none⟩ = some v0 ∧ W.cell? ⟨b13, 1, none⟩ = some v1
end Go.Proofs.Ytmdjclfmhndjnaa
