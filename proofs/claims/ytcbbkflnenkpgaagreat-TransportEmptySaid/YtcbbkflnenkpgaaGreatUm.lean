/-
  Contracts of both valids of a configuration. Condition: none.
-/
import Derived.Test.YtcbbkflnenkpgaaGreatUl
namespace Go.Proofs.YtcbbkflnenkpgaaGreat
open Go.RowKit
set_option linter.unusedVariables false
/-- a valid configuration -/
def VC (sz bt md lm rv : Int) : Bool := decide (1 ≤ sz ∧ sz ≤ 79536 ∧ (md = 2 ∨ md = 4 ∨ md = 6) ∧ 0 ≤ bt ∧ bt ≤ 131072 ∧ bt % md = 0 ∧ 1 ≤ lm ∧ 0 ≤ rv ∧ rv ≤ 3)
set_option maxRecDepth 100000 in
set_option maxHeartbeats 4000000 in
theorem valc_any (sz bt md lm rv : Int) (w : World) : Calls Tryz.prog 61 #[.agg #[.int .i64 sz, .int .i64 bt, .int .i64 md, .int .i64 lm, .int .i64 rv]] w fun e w' => e = .returned (.bool (VC sz bt md lm rv)) ∧ Below w.heap.size w w' := by
  by_cases h0 : 1 ≤ sz
  · by_cases h1 : sz ≤ 79536
    · by_cases hm2 : md = 2
      · subst hm2
        by_cases h3 : 0 ≤ bt
        · by_cases h4 : bt ≤ 131072
          · by_cases h5 : bt % 2 = 0
            · by_cases h6 : 1 ≤ lm
              · by_cases h7 : 0 ≤ rv
                · by_cases h8 : rv ≤ 3
                  · have hv : VC sz bt 2 lm rv = true := decide_eq_true (by omega)
                    have q0 : decide (1 ≤ sz) = true := by first | (simp; done) | (simp; omega) | omega | (rw [Int.tmod_eq_emod_of_nonneg (by omega)]; simp; omega) | (rw [Int.tmod_eq_emod_of_nonneg (by omega)]; simp [h5])
                    have q1 : decide (sz ≤ 79536) = true := by first | (simp; done) | (simp; omega) | omega | (rw [Int.tmod_eq_emod_of_nonneg (by omega)]; simp; omega) | (rw [Int.tmod_eq_emod_of_nonneg (by omega)]; simp [h5])
                    have q2 : decide (0 ≤ bt) = true := by first | (simp; done) | (simp; omega) | omega | (rw [Int.tmod_eq_emod_of_nonneg (by omega)]; simp; omega) | (rw [Int.tmod_eq_emod_of_nonneg (by omega)]; simp [h5])
                    have q3 : decide (bt ≤ 131072) = true := by first | (simp; done) | (simp; omega) | omega | (rw [Int.tmod_eq_emod_of_nonneg (by omega)]; simp; omega) | (rw [Int.tmod_eq_emod_of_nonneg (by omega)]; simp [h5])
                    have q4 : (bt % 2 == 0) = true := by first | (simp; done) | (simp; omega) | omega | (rw [Int.tmod_eq_emod_of_nonneg (by omega)]; simp; omega) | (rw [Int.tmod_eq_emod_of_nonneg (by omega)]; simp [h5])
                    have q5 : (bt.tmod 2 == 0) = true := by first | (simp; done) | (simp; omega) | omega | (rw [Int.tmod_eq_emod_of_nonneg (by omega)]; simp; omega) | (rw [Int.tmod_eq_emod_of_nonneg (by omega)]; simp [h5])
                    have q6 : decide (1 ≤ lm) = true := by first | (simp; done) | (simp; omega) | omega | (rw [Int.tmod_eq_emod_of_nonneg (by omega)]; simp; omega) | (rw [Int.tmod_eq_emod_of_nonneg (by omega)]; simp [h5])
                    have q7 : decide (0 ≤ rv) = true := by first | (simp; done) | (simp; omega) | omega | (rw [Int.tmod_eq_emod_of_nonneg (by omega)]; simp; omega) | (rw [Int.tmod_eq_emod_of_nonneg (by omega)]; simp [h5])
                    have q8 : decide (rv ≤ 3) = true := by first | (simp; done) | (simp; omega) | omega | (rw [Int.tmod_eq_emod_of_nonneg (by omega)]; simp; omega) | (rw [Int.tmod_eq_emod_of_nonneg (by omega)]; simp [h5])
                    rw [hv]
                    clear hv
                    try clear h0
                    try clear h1
                    try clear h2
                    try clear h3
                    try clear h4
                    try clear h5
                    try clear h6
                    try clear h7
                    try clear h8
                    try clear hm2
                    try clear hm4
                    try clear hm6
                    go_enter Tryz.func61, Tryz.ntmps61
                    go_wp2
                    go_ret
                    exact ⟨rfl, bal (Below.refl _ w) _⟩
                  · have hv : VC sz bt 2 lm rv = false := decide_eq_false (by omega)
                    have q0 : decide (1 ≤ sz) = true := by first | (simp; done) | (simp; omega) | omega | (rw [Int.tmod_eq_emod_of_nonneg (by omega)]; simp; omega) | (rw [Int.tmod_eq_emod_of_nonneg (by omega)]; simp [h5])
                    have q1 : decide (sz ≤ 79536) = true := by first | (simp; done) | (simp; omega) | omega | (rw [Int.tmod_eq_emod_of_nonneg (by omega)]; simp; omega) | (rw [Int.tmod_eq_emod_of_nonneg (by omega)]; simp [h5])
                    have q2 : decide (0 ≤ bt) = true := by first | (simp; done) | (simp; omega) | omega | (rw [Int.tmod_eq_emod_of_nonneg (by omega)]; simp; omega) | (rw [Int.tmod_eq_emod_of_nonneg (by omega)]; simp [h5])
                    have q3 : decide (bt ≤ 131072) = true := by first | (simp; done) | (simp; omega) | omega | (rw [Int.tmod_eq_emod_of_nonneg (by omega)]; simp; omega) | (rw [Int.tmod_eq_emod_of_nonneg (by omega)]; simp [h5])
                    have q4 : (bt % 2 == 0) = true := by first | (simp; done) | (simp; omega) | omega | (rw [Int.tmod_eq_emod_of_nonneg (by omega)]; simp; omega) | (rw [Int.tmod_eq_emod_of_nonneg (by omega)]; simp [h5])
                    have q5 : (bt.tmod 2 == 0) = true := by first | (simp; done) | (simp; omega) | omega | (rw [Int.tmod_eq_emod_of_nonneg (by omega)]; simp; omega) | (rw [Int.tmod_eq_emod_of_nonneg (by omega)]; simp [h5])
                    have q6 : decide (1 ≤ lm) = true := by first | (simp; done) | (simp; omega) | omega | (rw [Int.tmod_eq_emod_of_nonneg (by omega)]; simp; omega) | (rw [Int.tmod_eq_emod_of_nonneg (by omega)]; simp [h5])
                    have q7 : decide (0 ≤ rv) = true := by first | (simp; done) | (simp; omega) | omega | (rw [Int.tmod_eq_emod_of_nonneg (by omega)]; simp; omega) | (rw [Int.tmod_eq_emod_of_nonneg (by omega)]; simp [h5])
                    have q8 : decide (rv ≤ 3) = false := by first | (simp; done) | (simp; omega) | omega | (rw [Int.tmod_eq_emod_of_nonneg (by omega)]; simp; omega) | (rw [Int.tmod_eq_emod_of_nonneg (by omega)]; simp [h5])
                    rw [hv]
                    clear hv
                    try clear h0
                    try clear h1
                    try clear h2
                    try clear h3
                    try clear h4
                    try clear h5
                    try clear h6
                    try clear h7
                    try clear h8
                    try clear hm2
                    try clear hm4
                    try clear hm6
                    go_enter Tryz.func61, Tryz.ntmps61
                    go_wp2
                    go_ret
                    exact ⟨rfl, bal (Below.refl _ w) _⟩
                · have hv : VC sz bt 2 lm rv = false := decide_eq_false (by omega)
                  have q0 : decide (1 ≤ sz) = true := by first | (simp; done) | (simp; omega) | omega | (rw [Int.tmod_eq_emod_of_nonneg (by omega)]; simp; omega) | (rw [Int.tmod_eq_emod_of_nonneg (by omega)]; simp [h5])
                  have q1 : decide (sz ≤ 79536) = true := by first | (simp; done) | (simp; omega) | omega | (rw [Int.tmod_eq_emod_of_nonneg (by omega)]; simp; omega) | (rw [Int.tmod_eq_emod_of_nonneg (by omega)]; simp [h5])
                  have q2 : decide (0 ≤ bt) = true := by first | (simp; done) | (simp; omega) | omega | (rw [Int.tmod_eq_emod_of_nonneg (by omega)]; simp; omega) | (rw [Int.tmod_eq_emod_of_nonneg (by omega)]; simp [h5])
                  have q3 : decide (bt ≤ 131072) = true := by first | (simp; done) | (simp; omega) | omega | (rw [Int.tmod_eq_emod_of_nonneg (by omega)]; simp; omega) | (rw [Int.tmod_eq_emod_of_nonneg (by omega)]; simp [h5])
                  have q4 : (bt % 2 == 0) = true := by first | (simp; done) | (simp; omega) | omega | (rw [Int.tmod_eq_emod_of_nonneg (by omega)]; simp; omega) | (rw [Int.tmod_eq_emod_of_nonneg (by omega)]; simp [h5])
                  have q5 : (bt.tmod 2 == 0) = true := by first | (simp; done) | (simp; omega) | omega | (rw [Int.tmod_eq_emod_of_nonneg (by omega)]; simp; omega) | (rw [Int.tmod_eq_emod_of_nonneg (by omega)]; simp [h5])
                  have q6 : decide (1 ≤ lm) = true := by first | (simp; done) | (simp; omega) | omega | (rw [Int.tmod_eq_emod_of_nonneg (by omega)]; simp; omega) | (rw [Int.tmod_eq_emod_of_nonneg (by omega)]; simp [h5])
                  have q7 : decide (0 ≤ rv) = false := by first | (simp; done) | (simp; omega) | omega | (rw [Int.tmod_eq_emod_of_nonneg (by omega)]; simp; omega) | (rw [Int.tmod_eq_emod_of_nonneg (by omega)]; simp [h5])
                  rw [hv]
                  clear hv
                  try clear h0
                  try clear h1
                  try clear h2
                  try clear h3
                  try clear h4
                  try clear h5
                  try clear h6
                  try clear h7
                  try clear h8
                  try clear hm2
                  try clear hm4
                  try clear hm6
                  go_enter Tryz.func61, Tryz.ntmps61
                  go_wp2
                  go_ret
                  exact ⟨rfl, bal (Below.refl _ w) _⟩
              · have hv : VC sz bt 2 lm rv = false := decide_eq_false (by omega)
                have q0 : decide (1 ≤ sz) = true := by first | (simp; done) | (simp; omega) | omega | (rw [Int.tmod_eq_emod_of_nonneg (by omega)]; simp; omega) | (rw [Int.tmod_eq_emod_of_nonneg (by omega)]; simp [h5])
                have q1 : decide (sz ≤ 79536) = true := by first | (simp; done) | (simp; omega) | omega | (rw [Int.tmod_eq_emod_of_nonneg (by omega)]; simp; omega) | (rw [Int.tmod_eq_emod_of_nonneg (by omega)]; simp [h5])
                have q2 : decide (0 ≤ bt) = true := by first | (simp; done) | (simp; omega) | omega | (rw [Int.tmod_eq_emod_of_nonneg (by omega)]; simp; omega) | (rw [Int.tmod_eq_emod_of_nonneg (by omega)]; simp [h5])
                have q3 : decide (bt ≤ 131072) = true := by first | (simp; done) | (simp; omega) | omega | (rw [Int.tmod_eq_emod_of_nonneg (by omega)]; simp; omega) | (rw [Int.tmod_eq_emod_of_nonneg (by omega)]; simp [h5])
                have q4 : (bt % 2 == 0) = true := by first | (simp; done) | (simp; omega) | omega | (rw [Int.tmod_eq_emod_of_nonneg (by omega)]; simp; omega) | (rw [Int.tmod_eq_emod_of_nonneg (by omega)]; simp [h5])
                have q5 : (bt.tmod 2 == 0) = true := by first | (simp; done) | (simp; omega) | omega | (rw [Int.tmod_eq_emod_of_nonneg (by omega)]; simp; omega) | (rw [Int.tmod_eq_emod_of_nonneg (by omega)]; simp [h5])
                have q6 : decide (1 ≤ lm) = false := by first | (simp; done) | (simp; omega) | omega | (rw [Int.tmod_eq_emod_of_nonneg (by omega)]; simp; omega) | (rw [Int.tmod_eq_emod_of_nonneg (by omega)]; simp [h5])
                rw [hv]
                clear hv
                try clear h0
                try clear h1
                try clear h2
                try clear h3
                try clear h4
                try clear h5
                try clear h6
                try clear h7
                try clear h8
                try clear hm2
                try clear hm4
                try clear hm6
                go_enter Tryz.func61, Tryz.ntmps61
                go_wp2
                go_ret
                exact ⟨rfl, bal (Below.refl _ w) _⟩
            · have hv : VC sz bt 2 lm rv = false := decide_eq_false (by omega)
              have q0 : decide (1 ≤ sz) = true := by first | (simp; done) | (simp; omega) | omega | (rw [Int.tmod_eq_emod_of_nonneg (by omega)]; simp; omega) | (rw [Int.tmod_eq_emod_of_nonneg (by omega)]; simp [h5])
              have q1 : decide (sz ≤ 79536) = true := by first | (simp; done) | (simp; omega) | omega | (rw [Int.tmod_eq_emod_of_nonneg (by omega)]; simp; omega) | (rw [Int.tmod_eq_emod_of_nonneg (by omega)]; simp [h5])
              have q2 : decide (0 ≤ bt) = true := by first | (simp; done) | (simp; omega) | omega | (rw [Int.tmod_eq_emod_of_nonneg (by omega)]; simp; omega) | (rw [Int.tmod_eq_emod_of_nonneg (by omega)]; simp [h5])
              have q3 : decide (bt ≤ 131072) = true := by first | (simp; done) | (simp; omega) | omega | (rw [Int.tmod_eq_emod_of_nonneg (by omega)]; simp; omega) | (rw [Int.tmod_eq_emod_of_nonneg (by omega)]; simp [h5])
              have q4 : (bt % 2 == 0) = false := by first | (simp; done) | (simp; omega) | omega | (rw [Int.tmod_eq_emod_of_nonneg (by omega)]; simp; omega) | (rw [Int.tmod_eq_emod_of_nonneg (by omega)]; simp [h5])
              have q5 : (bt.tmod 2 == 0) = false := by first | (simp; done) | (simp; omega) | omega | (rw [Int.tmod_eq_emod_of_nonneg (by omega)]; simp; omega) | (rw [Int.tmod_eq_emod_of_nonneg (by omega)]; simp [h5])
              rw [hv]
              clear hv
              try clear h0
              try clear h1
              try clear h2
              try clear h3
              try clear h4
              try clear h5
              try clear h6
              try clear h7
              try clear h8
              try clear hm2
              try clear hm4
              try clear hm6
              go_enter Tryz.func61, Tryz.ntmps61
              go_wp2
              go_ret
              exact ⟨rfl, bal (Below.refl _ w) _⟩
          · have hv : VC sz bt 2 lm rv = false := decide_eq_false (by omega)
            have q0 : decide (1 ≤ sz) = true := by first | (simp; done) | (simp; omega) | omega | (rw [Int.tmod_eq_emod_of_nonneg (by omega)]; simp; omega) | (rw [Int.tmod_eq_emod_of_nonneg (by omega)]; simp [h5])
            have q1 : decide (sz ≤ 79536) = true := by first | (simp; done) | (simp; omega) | omega | (rw [Int.tmod_eq_emod_of_nonneg (by omega)]; simp; omega) | (rw [Int.tmod_eq_emod_of_nonneg (by omega)]; simp [h5])
            have q2 : decide (0 ≤ bt) = true := by first | (simp; done) | (simp; omega) | omega | (rw [Int.tmod_eq_emod_of_nonneg (by omega)]; simp; omega) | (rw [Int.tmod_eq_emod_of_nonneg (by omega)]; simp [h5])
            have q3 : decide (bt ≤ 131072) = false := by first | (simp; done) | (simp; omega) | omega | (rw [Int.tmod_eq_emod_of_nonneg (by omega)]; simp; omega) | (rw [Int.tmod_eq_emod_of_nonneg (by omega)]; simp [h5])
            rw [hv]
            clear hv
            try clear h0
            try clear h1
            try clear h2
            try clear h3
            try clear h4
            try clear h5
            try clear h6
            try clear h7
            try clear h8
            try clear hm2
            try clear hm4
            try clear hm6
            go_enter Tryz.func61, Tryz.ntmps61
            go_wp2
            go_ret
            exact ⟨rfl, bal (Below.refl _ w) _⟩
        · have hv : VC sz bt 2 lm rv = false := decide_eq_false (by omega)
          have q0 : decide (1 ≤ sz) = true := by first | (simp; done) | (simp; omega) | omega | (rw [Int.tmod_eq_emod_of_nonneg (by omega)]; simp; omega) | (rw [Int.tmod_eq_emod_of_nonneg (by omega)]; simp [h5])
          have q1 : decide (sz ≤ 79536) = true := by first | (simp; done) | (simp; omega) | omega | (rw [Int.tmod_eq_emod_of_nonneg (by omega)]; simp; omega) | (rw [Int.tmod_eq_emod_of_nonneg (by omega)]; simp [h5])
          have q2 : decide (0 ≤ bt) = false := by first | (simp; done) | (simp; omega) | omega | (rw [Int.tmod_eq_emod_of_nonneg (by omega)]; simp; omega) | (rw [Int.tmod_eq_emod_of_nonneg (by omega)]; simp [h5])
          rw [hv]
          clear hv
          try clear h0
          try clear h1
          try clear h2
          try clear h3
          try clear h4
          try clear h5
          try clear h6
          try clear h7
          try clear h8
          try clear hm2
          try clear hm4
          try clear hm6
          go_enter Tryz.func61, Tryz.ntmps61
          go_wp2
          go_ret
          exact ⟨rfl, bal (Below.refl _ w) _⟩
      · by_cases hm4 : md = 4
        · subst hm4
          by_cases h3 : 0 ≤ bt
          · by_cases h4 : bt ≤ 131072
            · by_cases h5 : bt % 4 = 0
              · by_cases h6 : 1 ≤ lm
                · by_cases h7 : 0 ≤ rv
                  · by_cases h8 : rv ≤ 3
                    · have hv : VC sz bt 4 lm rv = true := decide_eq_true (by omega)
                      have q0 : decide (1 ≤ sz) = true := by first | (simp; done) | (simp; omega) | omega | (rw [Int.tmod_eq_emod_of_nonneg (by omega)]; simp; omega) | (rw [Int.tmod_eq_emod_of_nonneg (by omega)]; simp [h5])
                      have q1 : decide (sz ≤ 79536) = true := by first | (simp; done) | (simp; omega) | omega | (rw [Int.tmod_eq_emod_of_nonneg (by omega)]; simp; omega) | (rw [Int.tmod_eq_emod_of_nonneg (by omega)]; simp [h5])
                      have q2 : decide (0 ≤ bt) = true := by first | (simp; done) | (simp; omega) | omega | (rw [Int.tmod_eq_emod_of_nonneg (by omega)]; simp; omega) | (rw [Int.tmod_eq_emod_of_nonneg (by omega)]; simp [h5])
                      have q3 : decide (bt ≤ 131072) = true := by first | (simp; done) | (simp; omega) | omega | (rw [Int.tmod_eq_emod_of_nonneg (by omega)]; simp; omega) | (rw [Int.tmod_eq_emod_of_nonneg (by omega)]; simp [h5])
                      have q4 : (bt % 4 == 0) = true := by first | (simp; done) | (simp; omega) | omega | (rw [Int.tmod_eq_emod_of_nonneg (by omega)]; simp; omega) | (rw [Int.tmod_eq_emod_of_nonneg (by omega)]; simp [h5])
                      have q5 : (bt.tmod 4 == 0) = true := by first | (simp; done) | (simp; omega) | omega | (rw [Int.tmod_eq_emod_of_nonneg (by omega)]; simp; omega) | (rw [Int.tmod_eq_emod_of_nonneg (by omega)]; simp [h5])
                      have q6 : decide (1 ≤ lm) = true := by first | (simp; done) | (simp; omega) | omega | (rw [Int.tmod_eq_emod_of_nonneg (by omega)]; simp; omega) | (rw [Int.tmod_eq_emod_of_nonneg (by omega)]; simp [h5])
                      have q7 : decide (0 ≤ rv) = true := by first | (simp; done) | (simp; omega) | omega | (rw [Int.tmod_eq_emod_of_nonneg (by omega)]; simp; omega) | (rw [Int.tmod_eq_emod_of_nonneg (by omega)]; simp [h5])
                      have q8 : decide (rv ≤ 3) = true := by first | (simp; done) | (simp; omega) | omega | (rw [Int.tmod_eq_emod_of_nonneg (by omega)]; simp; omega) | (rw [Int.tmod_eq_emod_of_nonneg (by omega)]; simp [h5])
                      rw [hv]
                      clear hv
                      try clear h0
                      try clear h1
                      try clear h2
                      try clear h3
                      try clear h4
                      try clear h5
                      try clear h6
                      try clear h7
                      try clear h8
                      try clear hm2
                      try clear hm4
                      try clear hm6
                      go_enter Tryz.func61, Tryz.ntmps61
                      go_wp2
                      go_ret
                      exact ⟨rfl, bal (Below.refl _ w) _⟩
                    · have hv : VC sz bt 4 lm rv = false := decide_eq_false (by omega)
                      have q0 : decide (1 ≤ sz) = true := by first | (simp; done) | (simp; omega) | omega | (rw [Int.tmod_eq_emod_of_nonneg (by omega)]; simp; omega) | (rw [Int.tmod_eq_emod_of_nonneg (by omega)]; simp [h5])
                      have q1 : decide (sz ≤ 79536) = true := by first | (simp; done) | (simp; omega) | omega | (rw [Int.tmod_eq_emod_of_nonneg (by omega)]; simp; omega) | (rw [Int.tmod_eq_emod_of_nonneg (by omega)]; simp [h5])
                      have q2 : decide (0 ≤ bt) = true := by first | (simp; done) | (simp; omega) | omega | (rw [Int.tmod_eq_emod_of_nonneg (by omega)]; simp; omega) | (rw [Int.tmod_eq_emod_of_nonneg (by omega)]; simp [h5])
                      have q3 : decide (bt ≤ 131072) = true := by first | (simp; done) | (simp; omega) | omega | (rw [Int.tmod_eq_emod_of_nonneg (by omega)]; simp; omega) | (rw [Int.tmod_eq_emod_of_nonneg (by omega)]; simp [h5])
                      have q4 : (bt % 4 == 0) = true := by first | (simp; done) | (simp; omega) | omega | (rw [Int.tmod_eq_emod_of_nonneg (by omega)]; simp; omega) | (rw [Int.tmod_eq_emod_of_nonneg (by omega)]; simp [h5])
                      have q5 : (bt.tmod 4 == 0) = true := by first | (simp; done) | (simp; omega) | omega | (rw [Int.tmod_eq_emod_of_nonneg (by omega)]; simp; omega) | (rw [Int.tmod_eq_emod_of_nonneg (by omega)]; simp [h5])
                      have q6 : decide (1 ≤ lm) = true := by first | (simp; done) | (simp; omega) | omega | (rw [Int.tmod_eq_emod_of_nonneg (by omega)]; simp; omega) | (rw [Int.tmod_eq_emod_of_nonneg (by omega)]; simp [h5])
                      have q7 : decide (0 ≤ rv) = true := by first | (simp; done) | (simp; omega) | omega | (rw [Int.tmod_eq_emod_of_nonneg (by omega)]; simp; omega) | (rw [Int.tmod_eq_emod_of_nonneg (by omega)]; simp [h5])
                      have q8 : decide (rv ≤ 3) = false := by first | (simp; done) | (simp; omega) | omega | (rw [Int.tmod_eq_emod_of_nonneg (by omega)]; simp; omega) | (rw [Int.tmod_eq_emod_of_nonneg (by omega)]; simp [h5])
                      rw [hv]
                      clear hv
                      try clear h0
                      try clear h1
                      try clear h2
                      try clear h3
                      try clear h4
                      try clear h5
                      try clear h6
                      try clear h7
                      try clear h8
                      try clear hm2
                      try clear hm4
                      try clear hm6
                      go_enter Tryz.func61, Tryz.ntmps61
                      go_wp2
                      go_ret
                      exact ⟨rfl, bal (Below.refl _ w) _⟩
                  · have hv : VC sz bt 4 lm rv = false := decide_eq_false (by omega)
                    have q0 : decide (1 ≤ sz) = true := by first | (simp; done) | (simp; omega) | omega | (rw [Int.tmod_eq_emod_of_nonneg (by omega)]; simp; omega) | (rw [Int.tmod_eq_emod_of_nonneg (by omega)]; simp [h5])
                    have q1 : decide (sz ≤ 79536) = true := by first | (simp; done) | (simp; omega) | omega | (rw [Int.tmod_eq_emod_of_nonneg (by omega)]; simp; omega) | (rw [Int.tmod_eq_emod_of_nonneg (by omega)]; simp [h5])
                    have q2 : decide (0 ≤ bt) = true := by first | (simp; done) | (simp; omega) | omega | (rw [Int.tmod_eq_emod_of_nonneg (by omega)]; simp; omega) | (rw [Int.tmod_eq_emod_of_nonneg (by omega)]; simp [h5])
                    have q3 : decide (bt ≤ 131072) = true := by first | (simp; done) | (simp; omega) | omega | (rw [Int.tmod_eq_emod_of_nonneg (by omega)]; simp; omega) | (rw [Int.tmod_eq_emod_of_nonneg (by omega)]; simp [h5])
                    have q4 : (bt % 4 == 0) = true := by first | (simp; done) | (simp; omega) | omega | (rw [Int.tmod_eq_emod_of_nonneg (by omega)]; simp; omega) | (rw [Int.tmod_eq_emod_of_nonneg (by omega)]; simp [h5])
                    have q5 : (bt.tmod 4 == 0) = true := by first | (simp; done) | (simp; omega) | omega | (rw [Int.tmod_eq_emod_of_nonneg (by omega)]; simp; omega) | (rw [Int.tmod_eq_emod_of_nonneg (by omega)]; simp [h5])
                    have q6 : decide (1 ≤ lm) = true := by first | (simp; done) | (simp; omega) | omega | (rw [Int.tmod_eq_emod_of_nonneg (by omega)]; simp; omega) | (rw [Int.tmod_eq_emod_of_nonneg (by omega)]; simp [h5])
                    have q7 : decide (0 ≤ rv) = false := by first | (simp; done) | (simp; omega) | omega | (rw [Int.tmod_eq_emod_of_nonneg (by omega)]; simp; omega) | (rw [Int.tmod_eq_emod_of_nonneg (by omega)]; simp [h5])
                    rw [hv]
                    clear hv
                    try clear h0
                    try clear h1
                    try clear h2
                    try clear h3
                    try clear h4
                    try clear h5
                    try clear h6
                    try clear h7
                    try clear h8
                    try clear hm2
                    try clear hm4
                    try clear hm6
                    go_enter Tryz.func61, Tryz.ntmps61
                    go_wp2
                    go_ret
                    exact ⟨rfl, bal (Below.refl _ w) _⟩
                · have hv : VC sz bt 4 lm rv = false := decide_eq_false (by omega)
                  have q0 : decide (1 ≤ sz) = true := by first | (simp; done) | (simp; omega) | omega | (rw [Int.tmod_eq_emod_of_nonneg (by omega)]; simp; omega) | (rw [Int.tmod_eq_emod_of_nonneg (by omega)]; simp [h5])
                  have q1 : decide (sz ≤ 79536) = true := by first | (simp; done) | (simp; omega) | omega | (rw [Int.tmod_eq_emod_of_nonneg (by omega)]; simp; omega) | (rw [Int.tmod_eq_emod_of_nonneg (by omega)]; simp [h5])
                  have q2 : decide (0 ≤ bt) = true := by first | (simp; done) | (simp; omega) | omega | (rw [Int.tmod_eq_emod_of_nonneg (by omega)]; simp; omega) | (rw [Int.tmod_eq_emod_of_nonneg (by omega)]; simp [h5])
                  have q3 : decide (bt ≤ 131072) = true := by first | (simp; done) | (simp; omega) | omega | (rw [Int.tmod_eq_emod_of_nonneg (by omega)]; simp; omega) | (rw [Int.tmod_eq_emod_of_nonneg (by omega)]; simp [h5])
                  have q4 : (bt % 4 == 0) = true := by first | (simp; done) | (simp; omega) | omega | (rw [Int.tmod_eq_emod_of_nonneg (by omega)]; simp; omega) | (rw [Int.tmod_eq_emod_of_nonneg (by omega)]; simp [h5])
                  have q5 : (bt.tmod 4 == 0) = true := by first | (simp; done) | (simp; omega) | omega | (rw [Int.tmod_eq_emod_of_nonneg (by omega)]; simp; omega) | (rw [Int.tmod_eq_emod_of_nonneg (by omega)]; simp [h5])
                  have q6 : decide (1 ≤ lm) = false := by first | (simp; done) | (simp; omega) | omega | (rw [Int.tmod_eq_emod_of_nonneg (by omega)]; simp; omega) | (rw [Int.tmod_eq_emod_of_nonneg (by omega)]; simp [h5])
                  rw [hv]
                  clear hv
                  try clear h0
                  try clear h1
                  try clear h2
                  try clear h3
                  try clear h4
                  try clear h5
                  try clear h6
                  try clear h7
                  try clear h8
                  try clear hm2
                  try clear hm4
                  try clear hm6
                  go_enter Tryz.func61, Tryz.ntmps61
                  go_wp2
                  go_ret
                  exact ⟨rfl, bal (Below.refl _ w) _⟩
              · have hv : VC sz bt 4 lm rv = false := decide_eq_false (by omega)
                have q0 : decide (1 ≤ sz) = true := by first | (simp; done) | (simp; omega) | omega | (rw [Int.tmod_eq_emod_of_nonneg (by omega)]; simp; omega) | (rw [Int.tmod_eq_emod_of_nonneg (by omega)]; simp [h5])
                have q1 : decide (sz ≤ 79536) = true := by first | (simp; done) | (simp; omega) | omega | (rw [Int.tmod_eq_emod_of_nonneg (by omega)]; simp; omega) | (rw [Int.tmod_eq_emod_of_nonneg (by omega)]; simp [h5])
                have q2 : decide (0 ≤ bt) = true := by first | (simp; done) | (simp; omega) | omega | (rw [Int.tmod_eq_emod_of_nonneg (by omega)]; simp; omega) | (rw [Int.tmod_eq_emod_of_nonneg (by omega)]; simp [h5])
                have q3 : decide (bt ≤ 131072) = true := by first | (simp; done) | (simp; omega) | omega | (rw [Int.tmod_eq_emod_of_nonneg (by omega)]; simp; omega) | (rw [Int.tmod_eq_emod_of_nonneg (by omega)]; simp [h5])
                have q4 : (bt % 4 == 0) = false := by first | (simp; done) | (simp; omega) | omega | (rw [Int.tmod_eq_emod_of_nonneg (by omega)]; simp; omega) | (rw [Int.tmod_eq_emod_of_nonneg (by omega)]; simp [h5])
                have q5 : (bt.tmod 4 == 0) = false := by first | (simp; done) | (simp; omega) | omega | (rw [Int.tmod_eq_emod_of_nonneg (by omega)]; simp; omega) | (rw [Int.tmod_eq_emod_of_nonneg (by omega)]; simp [h5])
                rw [hv]
                clear hv
                try clear h0
                try clear h1
                try clear h2
                try clear h3
                try clear h4
                try clear h5
                try clear h6
                try clear h7
                try clear h8
                try clear hm2
                try clear hm4
                try clear hm6
                go_enter Tryz.func61, Tryz.ntmps61
                go_wp2
                go_ret
                exact ⟨rfl, bal (Below.refl _ w) _⟩
            · have hv : VC sz bt 4 lm rv = false := decide_eq_false (by omega)
              have q0 : decide (1 ≤ sz) = true := by first | (simp; done) | (simp; omega) | omega | (rw [Int.tmod_eq_emod_of_nonneg (by omega)]; simp; omega) | (rw [Int.tmod_eq_emod_of_nonneg (by omega)]; simp [h5])
              have q1 : decide (sz ≤ 79536) = true := by first | (simp; done) | (simp; omega) | omega | (rw [Int.tmod_eq_emod_of_nonneg (by omega)]; simp; omega) | (rw [Int.tmod_eq_emod_of_nonneg (by omega)]; simp [h5])
              have q2 : decide (0 ≤ bt) = true := by first | (simp; done) | (simp; omega) | omega | (rw [Int.tmod_eq_emod_of_nonneg (by omega)]; simp; omega) | (rw [Int.tmod_eq_emod_of_nonneg (by omega)]; simp [h5])
              have q3 : decide (bt ≤ 131072) = false := by first | (simp; done) | (simp; omega) | omega | (rw [Int.tmod_eq_emod_of_nonneg (by omega)]; simp; omega) | (rw [Int.tmod_eq_emod_of_nonneg (by omega)]; simp [h5])
              rw [hv]
              clear hv
              try clear h0
              try clear h1
              try clear h2
              try clear h3
              try clear h4
              try clear h5
              try clear h6
              try clear h7
              try clear h8
              try clear hm2
              try clear hm4
              try clear hm6
              go_enter Tryz.func61, Tryz.ntmps61
              go_wp2
              go_ret
              exact ⟨rfl, bal (Below.refl _ w) _⟩
          · have hv : VC sz bt 4 lm rv = false := decide_eq_false (by omega)
            have q0 : decide (1 ≤ sz) = true := by first | (simp; done) | (simp; omega) | omega | (rw [Int.tmod_eq_emod_of_nonneg (by omega)]; simp; omega) | (rw [Int.tmod_eq_emod_of_nonneg (by omega)]; simp [h5])
            have q1 : decide (sz ≤ 79536) = true := by first | (simp; done) | (simp; omega) | omega | (rw [Int.tmod_eq_emod_of_nonneg (by omega)]; simp; omega) | (rw [Int.tmod_eq_emod_of_nonneg (by omega)]; simp [h5])
            have q2 : decide (0 ≤ bt) = false := by first | (simp; done) | (simp; omega) | omega | (rw [Int.tmod_eq_emod_of_nonneg (by omega)]; simp; omega) | (rw [Int.tmod_eq_emod_of_nonneg (by omega)]; simp [h5])
            rw [hv]
            clear hv
            try clear h0
            try clear h1
            try clear h2
            try clear h3
            try clear h4
            try clear h5
            try clear h6
            try clear h7
            try clear h8
            try clear hm2
            try clear hm4
            try clear hm6
            go_enter Tryz.func61, Tryz.ntmps61
            go_wp2
            go_ret
            exact ⟨rfl, bal (Below.refl _ w) _⟩
        · by_cases hm6 : md = 6
          · subst hm6
            by_cases h3 : 0 ≤ bt
            · by_cases h4 : bt ≤ 131072
              · by_cases h5 : bt % 6 = 0
                · by_cases h6 : 1 ≤ lm
                  · by_cases h7 : 0 ≤ rv
                    · by_cases h8 : rv ≤ 3
                      · have hv : VC sz bt 6 lm rv = true := decide_eq_true (by omega)
                        have q0 : decide (1 ≤ sz) = true := by first | (simp; done) | (simp; omega) | omega | (rw [Int.tmod_eq_emod_of_nonneg (by omega)]; simp; omega) | (rw [Int.tmod_eq_emod_of_nonneg (by omega)]; simp [h5])
                        have q1 : decide (sz ≤ 79536) = true := by first | (simp; done) | (simp; omega) | omega | (rw [Int.tmod_eq_emod_of_nonneg (by omega)]; simp; omega) | (rw [Int.tmod_eq_emod_of_nonneg (by omega)]; simp [h5])
                        have q2 : decide (0 ≤ bt) = true := by first | (simp; done) | (simp; omega) | omega | (rw [Int.tmod_eq_emod_of_nonneg (by omega)]; simp; omega) | (rw [Int.tmod_eq_emod_of_nonneg (by omega)]; simp [h5])
                        have q3 : decide (bt ≤ 131072) = true := by first | (simp; done) | (simp; omega) | omega | (rw [Int.tmod_eq_emod_of_nonneg (by omega)]; simp; omega) | (rw [Int.tmod_eq_emod_of_nonneg (by omega)]; simp [h5])
                        have q4 : (bt % 6 == 0) = true := by first | (simp; done) | (simp; omega) | omega | (rw [Int.tmod_eq_emod_of_nonneg (by omega)]; simp; omega) | (rw [Int.tmod_eq_emod_of_nonneg (by omega)]; simp [h5])
                        have q5 : (bt.tmod 6 == 0) = true := by first | (simp; done) | (simp; omega) | omega | (rw [Int.tmod_eq_emod_of_nonneg (by omega)]; simp; omega) | (rw [Int.tmod_eq_emod_of_nonneg (by omega)]; simp [h5])
                        have q6 : decide (1 ≤ lm) = true := by first | (simp; done) | (simp; omega) | omega | (rw [Int.tmod_eq_emod_of_nonneg (by omega)]; simp; omega) | (rw [Int.tmod_eq_emod_of_nonneg (by omega)]; simp [h5])
                        have q7 : decide (0 ≤ rv) = true := by first | (simp; done) | (simp; omega) | omega | (rw [Int.tmod_eq_emod_of_nonneg (by omega)]; simp; omega) | (rw [Int.tmod_eq_emod_of_nonneg (by omega)]; simp [h5])
                        have q8 : decide (rv ≤ 3) = true := by first | (simp; done) | (simp; omega) | omega | (rw [Int.tmod_eq_emod_of_nonneg (by omega)]; simp; omega) | (rw [Int.tmod_eq_emod_of_nonneg (by omega)]; simp [h5])
                        rw [hv]
                        clear hv
                        try clear h0
                        try clear h1
                        try clear h2
                        try clear h3
                        try clear h4
                        try clear h5
                        try clear h6
                        try clear h7
                        try clear h8
                        try clear hm2
                        try clear hm4
                        try clear hm6
                        go_enter Tryz.func61, Tryz.ntmps61
                        go_wp2
                        go_ret
                        exact ⟨rfl, bal (Below.refl _ w) _⟩
                      · have hv : VC sz bt 6 lm rv = false := decide_eq_false (by omega)
                        have q0 : decide (1 ≤ sz) = true := by first | (simp; done) | (simp; omega) | omega | (rw [Int.tmod_eq_emod_of_nonneg (by omega)]; simp; omega) | (rw [Int.tmod_eq_emod_of_nonneg (by omega)]; simp [h5])
                        have q1 : decide (sz ≤ 79536) = true := by first | (simp; done) | (simp; omega) | omega | (rw [Int.tmod_eq_emod_of_nonneg (by omega)]; simp; omega) | (rw [Int.tmod_eq_emod_of_nonneg (by omega)]; simp [h5])
                        have q2 : decide (0 ≤ bt) = true := by first | (simp; done) | (simp; omega) | omega | (rw [Int.tmod_eq_emod_of_nonneg (by omega)]; simp; omega) | (rw [Int.tmod_eq_emod_of_nonneg (by omega)]; simp [h5])
                        have q3 : decide (bt ≤ 131072) = true := by first | (simp; done) | (simp; omega) | omega | (rw [Int.tmod_eq_emod_of_nonneg (by omega)]; simp; omega) | (rw [Int.tmod_eq_emod_of_nonneg (by omega)]; simp [h5])
                        have q4 : (bt % 6 == 0) = true := by first | (simp; done) | (simp; omega) | omega | (rw [Int.tmod_eq_emod_of_nonneg (by omega)]; simp; omega) | (rw [Int.tmod_eq_emod_of_nonneg (by omega)]; simp [h5])
                        have q5 : (bt.tmod 6 == 0) = true := by first | (simp; done) | (simp; omega) | omega | (rw [Int.tmod_eq_emod_of_nonneg (by omega)]; simp; omega) | (rw [Int.tmod_eq_emod_of_nonneg (by omega)]; simp [h5])
                        have q6 : decide (1 ≤ lm) = true := by first | (simp; done) | (simp; omega) | omega | (rw [Int.tmod_eq_emod_of_nonneg (by omega)]; simp; omega) | (rw [Int.tmod_eq_emod_of_nonneg (by omega)]; simp [h5])
                        have q7 : decide (0 ≤ rv) = true := by first | (simp; done) | (simp; omega) | omega | (rw [Int.tmod_eq_emod_of_nonneg (by omega)]; simp; omega) | (rw [Int.tmod_eq_emod_of_nonneg (by omega)]; simp [h5])
                        have q8 : decide (rv ≤ 3) = false := by first | (simp; done) | (simp; omega) | omega | (rw [Int.tmod_eq_emod_of_nonneg (by omega)]; simp; omega) | (rw [Int.tmod_eq_emod_of_nonneg (by omega)]; simp [h5])
                        rw [hv]
                        clear hv
                        try clear h0
                        try clear h1
                        try clear h2
                        try clear h3
                        try clear h4
                        try clear h5
                        try clear h6
                        try clear h7
                        try clear h8
                        try clear hm2
                        try clear hm4
                        try clear hm6
                        go_enter Tryz.func61, Tryz.ntmps61
                        go_wp2
                        go_ret
                        exact ⟨rfl, bal (Below.refl _ w) _⟩
                    · have hv : VC sz bt 6 lm rv = false := decide_eq_false (by omega)
                      have q0 : decide (1 ≤ sz) = true := by first | (simp; done) | (simp; omega) | omega | (rw [Int.tmod_eq_emod_of_nonneg (by omega)]; simp; omega) | (rw [Int.tmod_eq_emod_of_nonneg (by omega)]; simp [h5])
                      have q1 : decide (sz ≤ 79536) = true := by first | (simp; done) | (simp; omega) | omega | (rw [Int.tmod_eq_emod_of_nonneg (by omega)]; simp; omega) | (rw [Int.tmod_eq_emod_of_nonneg (by omega)]; simp [h5])
                      have q2 : decide (0 ≤ bt) = true := by first | (simp; done) | (simp; omega) | omega | (rw [Int.tmod_eq_emod_of_nonneg (by omega)]; simp; omega) | (rw [Int.tmod_eq_emod_of_nonneg (by omega)]; simp [h5])
                      have q3 : decide (bt ≤ 131072) = true := by first | (simp; done) | (simp; omega) | omega | (rw [Int.tmod_eq_emod_of_nonneg (by omega)]; simp; omega) | (rw [Int.tmod_eq_emod_of_nonneg (by omega)]; simp [h5])
                      have q4 : (bt % 6 == 0) = true := by first | (simp; done) | (simp; omega) | omega | (rw [Int.tmod_eq_emod_of_nonneg (by omega)]; simp; omega) | (rw [Int.tmod_eq_emod_of_nonneg (by omega)]; simp [h5])
                      have q5 : (bt.tmod 6 == 0) = true := by first | (simp; done) | (simp; omega) | omega | (rw [Int.tmod_eq_emod_of_nonneg (by omega)]; simp; omega) | (rw [Int.tmod_eq_emod_of_nonneg (by omega)]; simp [h5])
                      have q6 : decide (1 ≤ lm) = true := by first | (simp; done) | (simp; omega) | omega | (rw [Int.tmod_eq_emod_of_nonneg (by omega)]; simp; omega) | (rw [Int.tmod_eq_emod_of_nonneg (by omega)]; simp [h5])
                      have q7 : decide (0 ≤ rv) = false := by first | (simp; done) | (simp; omega) | omega | (rw [Int.tmod_eq_emod_of_nonneg (by omega)]; simp; omega) | (rw [Int.tmod_eq_emod_of_nonneg (by omega)]; simp [h5])
                      rw [hv]
                      clear hv
                      try clear h0
                      try clear h1
                      try clear h2
                      try clear h3
                      try clear h4
                      try clear h5
                      try clear h6
                      try clear h7
                      try clear h8
                      try clear hm2
                      try clear hm4
                      try clear hm6
                      go_enter Tryz.func61, Tryz.ntmps61
                      go_wp2
                      go_ret
                      exact ⟨rfl, bal (Below.refl _ w) _⟩
                  · have hv : VC sz bt 6 lm rv = false := decide_eq_false (by omega)
                    have q0 : decide (1 ≤ sz) = true := by first | (simp; done) | (simp; omega) | omega | (rw [Int.tmod_eq_emod_of_nonneg (by omega)]; simp; omega) | (rw [Int.tmod_eq_emod_of_nonneg (by omega)]; simp [h5])
                    have q1 : decide (sz ≤ 79536) = true := by first | (simp; done) | (simp; omega) | omega | (rw [Int.tmod_eq_emod_of_nonneg (by omega)]; simp; omega) | (rw [Int.tmod_eq_emod_of_nonneg (by omega)]; simp [h5])
                    have q2 : decide (0 ≤ bt) = true := by first | (simp; done) | (simp; omega) | omega | (rw [Int.tmod_eq_emod_of_nonneg (by omega)]; simp; omega) | (rw [Int.tmod_eq_emod_of_nonneg (by omega)]; simp [h5])
                    have q3 : decide (bt ≤ 131072) = true := by first | (simp; done) | (simp; omega) | omega | (rw [Int.tmod_eq_emod_of_nonneg (by omega)]; simp; omega) | (rw [Int.tmod_eq_emod_of_nonneg (by omega)]; simp [h5])
                    have q4 : (bt % 6 == 0) = true := by first | (simp; done) | (simp; omega) | omega | (rw [Int.tmod_eq_emod_of_nonneg (by omega)]; simp; omega) | (rw [Int.tmod_eq_emod_of_nonneg (by omega)]; simp [h5])
                    have q5 : (bt.tmod 6 == 0) = true := by first | (simp; done) | (simp; omega) | omega | (rw [Int.tmod_eq_emod_of_nonneg (by omega)]; simp; omega) | (rw [Int.tmod_eq_emod_of_nonneg (by omega)]; simp [h5])
                    have q6 : decide (1 ≤ lm) = false := by first | (simp; done) | (simp; omega) | omega | (rw [Int.tmod_eq_emod_of_nonneg (by omega)]; simp; omega) | (rw [Int.tmod_eq_emod_of_nonneg (by omega)]; simp [h5])
                    rw [hv]
                    clear hv
                    try clear h0
                    try clear h1
                    try clear h2
                    try clear h3
                    try clear h4
                    try clear h5
                    try clear h6
                    try clear h7
                    try clear h8
                    try clear hm2
                    try clear hm4
                    try clear hm6
                    go_enter Tryz.func61, Tryz.ntmps61
                    go_wp2
                    go_ret
                    exact ⟨rfl, bal (Below.refl _ w) _⟩
                · have hv : VC sz bt 6 lm rv = false := decide_eq_false (by omega)
                  have q0 : decide (1 ≤ sz) = true := by first | (simp; done) | (simp; omega) | omega | (rw [Int.tmod_eq_emod_of_nonneg (by omega)]; simp; omega) | (rw [Int.tmod_eq_emod_of_nonneg (by omega)]; simp [h5])
                  have q1 : decide (sz ≤ 79536) = true := by first | (simp; done) | (simp; omega) | omega | (rw [Int.tmod_eq_emod_of_nonneg (by omega)]; simp; omega) | (rw [Int.tmod_eq_emod_of_nonneg (by omega)]; simp [h5])
                  have q2 : decide (0 ≤ bt) = true := by first | (simp; done) | (simp; omega) | omega | (rw [Int.tmod_eq_emod_of_nonneg (by omega)]; simp; omega) | (rw [Int.tmod_eq_emod_of_nonneg (by omega)]; simp [h5])
                  have q3 : decide (bt ≤ 131072) = true := by first | (simp; done) | (simp; omega) | omega | (rw [Int.tmod_eq_emod_of_nonneg (by omega)]; simp; omega) | (rw [Int.tmod_eq_emod_of_nonneg (by omega)]; simp [h5])
                  have q4 : (bt % 6 == 0) = false := by first | (simp; done) | (simp; omega) | omega | (rw [Int.tmod_eq_emod_of_nonneg (by omega)]; simp; omega) | (rw [Int.tmod_eq_emod_of_nonneg (by omega)]; simp [h5])
                  have q5 : (bt.tmod 6 == 0) = false := by first | (simp; done) | (simp; omega) | omega | (rw [Int.tmod_eq_emod_of_nonneg (by omega)]; simp; omega) | (rw [Int.tmod_eq_emod_of_nonneg (by omega)]; simp [h5])
                  rw [hv]
                  clear hv
                  try clear h0
                  try clear h1
                  try clear h2
                  try clear h3
                  try clear h4
                  try clear h5
                  try clear h6
                  try clear h7
                  try clear h8
                  try clear hm2
                  try clear hm4
                  try clear hm6
                  go_enter Tryz.func61, Tryz.ntmps61
                  go_wp2
                  go_ret
                  exact ⟨rfl, bal (Below.refl _ w) _⟩
              · have hv : VC sz bt 6 lm rv = false := decide_eq_false (by omega)
                have q0 : decide (1 ≤ sz) = true := by first | (simp; done) | (simp; omega) | omega | (rw [Int.tmod_eq_emod_of_nonneg (by omega)]; simp; omega) | (rw [Int.tmod_eq_emod_of_nonneg (by omega)]; simp [h5])
                have q1 : decide (sz ≤ 79536) = true := by first | (simp; done) | (simp; omega) | omega | (rw [Int.tmod_eq_emod_of_nonneg (by omega)]; simp; omega) | (rw [Int.tmod_eq_emod_of_nonneg (by omega)]; simp [h5])
                have q2 : decide (0 ≤ bt) = true := by first | (simp; done) | (simp; omega) | omega | (rw [Int.tmod_eq_emod_of_nonneg (by omega)]; simp; omega) | (rw [Int.tmod_eq_emod_of_nonneg (by omega)]; simp [h5])
                have q3 : decide (bt ≤ 131072) = false := by first | (simp; done) | (simp; omega) | omega | (rw [Int.tmod_eq_emod_of_nonneg (by omega)]; simp; omega) | (rw [Int.tmod_eq_emod_of_nonneg (by omega)]; simp [h5])
                rw [hv]
                clear hv
                try clear h0
                try clear h1
                try clear h2
                try clear h3
                try clear h4
                try clear h5
                try clear h6
                try clear h7
                try clear h8
                try clear hm2
                try clear hm4
                try clear hm6
                go_enter Tryz.func61, Tryz.ntmps61
                go_wp2
                go_ret
                exact ⟨rfl, bal (Below.refl _ w) _⟩
            · have hv : VC sz bt 6 lm rv = false := decide_eq_false (by omega)
              have q0 : decide (1 ≤ sz) = true := by first | (simp; done) | (simp; omega) | omega | (rw [Int.tmod_eq_emod_of_nonneg (by omega)]; simp; omega) | (rw [Int.tmod_eq_emod_of_nonneg (by omega)]; simp [h5])
              have q1 : decide (sz ≤ 79536) = true := by first | (simp; done) | (simp; omega) | omega | (rw [Int.tmod_eq_emod_of_nonneg (by omega)]; simp; omega) | (rw [Int.tmod_eq_emod_of_nonneg (by omega)]; simp [h5])
              have q2 : decide (0 ≤ bt) = false := by first | (simp; done) | (simp; omega) | omega | (rw [Int.tmod_eq_emod_of_nonneg (by omega)]; simp; omega) | (rw [Int.tmod_eq_emod_of_nonneg (by omega)]; simp [h5])
              rw [hv]
              clear hv
              try clear h0
              try clear h1
              try clear h2
              try clear h3
              try clear h4
              try clear h5
              try clear h6
              try clear h7
              try clear h8
              try clear hm2
              try clear hm4
              try clear hm6
              go_enter Tryz.func61, Tryz.ntmps61
              go_wp2
              go_ret
              exact ⟨rfl, bal (Below.refl _ w) _⟩
          · have hv : VC sz bt md lm rv = false := decide_eq_false (by omega)
            have q0 : decide (1 ≤ sz) = true := by first | (simp; done) | (simp; omega) | omega | (rw [Int.tmod_eq_emod_of_nonneg (by omega)]; simp; omega) | (rw [Int.tmod_eq_emod_of_nonneg (by omega)]; simp [h5])
            have q1 : decide (sz ≤ 79536) = true := by first | (simp; done) | (simp; omega) | omega | (rw [Int.tmod_eq_emod_of_nonneg (by omega)]; simp; omega) | (rw [Int.tmod_eq_emod_of_nonneg (by omega)]; simp [h5])
            have q2 : (md == 2) = false := by first | (simp; done) | (simp; omega) | omega | (rw [Int.tmod_eq_emod_of_nonneg (by omega)]; simp; omega) | (rw [Int.tmod_eq_emod_of_nonneg (by omega)]; simp [h5])
            have q3 : (md == 4) = false := by first | (simp; done) | (simp; omega) | omega | (rw [Int.tmod_eq_emod_of_nonneg (by omega)]; simp; omega) | (rw [Int.tmod_eq_emod_of_nonneg (by omega)]; simp [h5])
            have q4 : (md == 6) = false := by first | (simp; done) | (simp; omega) | omega | (rw [Int.tmod_eq_emod_of_nonneg (by omega)]; simp; omega) | (rw [Int.tmod_eq_emod_of_nonneg (by omega)]; simp [h5])
            rw [hv]
            clear hv
            try clear h0
            try clear h1
            try clear h2
            try clear h3
            try clear h4
            try clear h5
            try clear h6
            try clear h7
            try clear h8
            try clear hm2
            try clear hm4
            try clear hm6
            go_enter Tryz.func61, Tryz.ntmps61
            go_wp2
            go_ret
            exact ⟨rfl, bal (Below.refl _ w) _⟩
    · have hv : VC sz bt md lm rv = false := decide_eq_false (by omega)
      have q0 : decide (1 ≤ sz) = true := by first | (simp; done) | (simp; omega) | omega | (rw [Int.tmod_eq_emod_of_nonneg (by omega)]; simp; omega) | (rw [Int.tmod_eq_emod_of_nonneg (by omega)]; simp [h5])
      have q1 : decide (sz ≤ 79536) = false := by first | (simp; done) | (simp; omega) | omega | (rw [Int.tmod_eq_emod_of_nonneg (by omega)]; simp; omega) | (rw [Int.tmod_eq_emod_of_nonneg (by omega)]; simp [h5])
      rw [hv]
      clear hv
      try clear h0
      try clear h1
      try clear h2
      try clear h3
      try clear h4
      try clear h5
      try clear h6
      try clear h7
      try clear h8
      try clear hm2
      try clear hm4
      try clear hm6
      go_enter Tryz.func61, Tryz.ntmps61
      go_wp2
      go_ret
      exact ⟨rfl, bal (Below.refl _ w) _⟩
  · have hv : VC sz bt md lm rv = false := decide_eq_false (by omega)
    have q0 : decide (1 ≤ sz) = false := by first | (simp; done) | (simp; omega) | omega | (rw [Int.tmod_eq_emod_of_nonneg (by omega)]; simp; omega) | (rw [Int.tmod_eq_emod_of_nonneg (by omega)]; simp [h5])
    rw [hv]
    clear hv
    try clear h0
    try clear h1
    try clear h2
    try clear h3
    try clear h4
    try clear h5
    try clear h6
    try clear h7
    try clear h8
    try clear hm2
    try clear hm4
    try clear hm6
    go_enter Tryz.func61, Tryz.ntmps61
    go_wp2
    go_ret
    exact ⟨rfl, bal (Below.refl _ w) _⟩
set_option maxRecDepth 100000 in
set_option maxHeartbeats 4000000 in
theorem rvalc_any (sz bt md lm rv : Int) (w : World) : Calls Tryz.prog 72 #[.agg #[.int .i64 sz, .int .i64 bt, .int .i64 md, .int .i64 lm, .int .i64 rv]] w fun e w' => e = .returned (.bool (VC sz bt md lm rv)) ∧ Below w.heap.size w w' := by
  by_cases h0 : 1 ≤ sz
  · by_cases h1 : sz ≤ 79536
    · by_cases h3 : 0 ≤ bt
      · by_cases h4 : bt ≤ 131072
        · by_cases h6 : 1 ≤ lm
          · by_cases h7 : 0 ≤ rv
            · by_cases h8 : rv ≤ 3
              · by_cases hm2 : md = 2
                · subst hm2
                  by_cases h5 : bt % 2 = 0
                  · have hv : VC sz bt 2 lm rv = true := decide_eq_true (by omega)
                    have q0 : decide (sz < 1) = false := by first | (simp; done) | (simp; omega) | omega | (rw [Int.tmod_eq_emod_of_nonneg (by omega)]; simp; omega) | (rw [Int.tmod_eq_emod_of_nonneg (by omega)]; simp [h5])
                    have q1 : decide (79536 < sz) = false := by first | (simp; done) | (simp; omega) | omega | (rw [Int.tmod_eq_emod_of_nonneg (by omega)]; simp; omega) | (rw [Int.tmod_eq_emod_of_nonneg (by omega)]; simp [h5])
                    have q2 : decide (bt < 0) = false := by first | (simp; done) | (simp; omega) | omega | (rw [Int.tmod_eq_emod_of_nonneg (by omega)]; simp; omega) | (rw [Int.tmod_eq_emod_of_nonneg (by omega)]; simp [h5])
                    have q3 : decide (131072 < bt) = false := by first | (simp; done) | (simp; omega) | omega | (rw [Int.tmod_eq_emod_of_nonneg (by omega)]; simp; omega) | (rw [Int.tmod_eq_emod_of_nonneg (by omega)]; simp [h5])
                    have q4 : decide (lm < 1) = false := by first | (simp; done) | (simp; omega) | omega | (rw [Int.tmod_eq_emod_of_nonneg (by omega)]; simp; omega) | (rw [Int.tmod_eq_emod_of_nonneg (by omega)]; simp [h5])
                    have q5 : decide (rv < 0) = false := by first | (simp; done) | (simp; omega) | omega | (rw [Int.tmod_eq_emod_of_nonneg (by omega)]; simp; omega) | (rw [Int.tmod_eq_emod_of_nonneg (by omega)]; simp [h5])
                    have q6 : decide (3 < rv) = false := by first | (simp; done) | (simp; omega) | omega | (rw [Int.tmod_eq_emod_of_nonneg (by omega)]; simp; omega) | (rw [Int.tmod_eq_emod_of_nonneg (by omega)]; simp [h5])
                    have q7 : (bt % 2 == 0) = true := by first | (simp; done) | (simp; omega) | omega | (rw [Int.tmod_eq_emod_of_nonneg (by omega)]; simp; omega) | (rw [Int.tmod_eq_emod_of_nonneg (by omega)]; simp [h5])
                    have q8 : (bt.tmod 2 == 0) = true := by first | (simp; done) | (simp; omega) | omega | (rw [Int.tmod_eq_emod_of_nonneg (by omega)]; simp; omega) | (rw [Int.tmod_eq_emod_of_nonneg (by omega)]; simp [h5])
                    rw [hv]
                    clear hv
                    try clear h0
                    try clear h1
                    try clear h2
                    try clear h3
                    try clear h4
                    try clear h5
                    try clear h6
                    try clear h7
                    try clear h8
                    try clear hm2
                    try clear hm4
                    try clear hm6
                    go_enter Tryz.func72, Tryz.ntmps72
                    go_wp2
                    go_ret
                    exact ⟨rfl, bal (Below.refl _ w) _⟩
                  · have hv : VC sz bt 2 lm rv = false := decide_eq_false (by omega)
                    have q0 : decide (sz < 1) = false := by first | (simp; done) | (simp; omega) | omega | (rw [Int.tmod_eq_emod_of_nonneg (by omega)]; simp; omega) | (rw [Int.tmod_eq_emod_of_nonneg (by omega)]; simp [h5])
                    have q1 : decide (79536 < sz) = false := by first | (simp; done) | (simp; omega) | omega | (rw [Int.tmod_eq_emod_of_nonneg (by omega)]; simp; omega) | (rw [Int.tmod_eq_emod_of_nonneg (by omega)]; simp [h5])
                    have q2 : decide (bt < 0) = false := by first | (simp; done) | (simp; omega) | omega | (rw [Int.tmod_eq_emod_of_nonneg (by omega)]; simp; omega) | (rw [Int.tmod_eq_emod_of_nonneg (by omega)]; simp [h5])
                    have q3 : decide (131072 < bt) = false := by first | (simp; done) | (simp; omega) | omega | (rw [Int.tmod_eq_emod_of_nonneg (by omega)]; simp; omega) | (rw [Int.tmod_eq_emod_of_nonneg (by omega)]; simp [h5])
                    have q4 : decide (lm < 1) = false := by first | (simp; done) | (simp; omega) | omega | (rw [Int.tmod_eq_emod_of_nonneg (by omega)]; simp; omega) | (rw [Int.tmod_eq_emod_of_nonneg (by omega)]; simp [h5])
                    have q5 : decide (rv < 0) = false := by first | (simp; done) | (simp; omega) | omega | (rw [Int.tmod_eq_emod_of_nonneg (by omega)]; simp; omega) | (rw [Int.tmod_eq_emod_of_nonneg (by omega)]; simp [h5])
                    have q6 : decide (3 < rv) = false := by first | (simp; done) | (simp; omega) | omega | (rw [Int.tmod_eq_emod_of_nonneg (by omega)]; simp; omega) | (rw [Int.tmod_eq_emod_of_nonneg (by omega)]; simp [h5])
                    have q7 : (bt % 2 == 0) = false := by first | (simp; done) | (simp; omega) | omega | (rw [Int.tmod_eq_emod_of_nonneg (by omega)]; simp; omega) | (rw [Int.tmod_eq_emod_of_nonneg (by omega)]; simp [h5])
                    have q8 : (bt.tmod 2 == 0) = false := by first | (simp; done) | (simp; omega) | omega | (rw [Int.tmod_eq_emod_of_nonneg (by omega)]; simp; omega) | (rw [Int.tmod_eq_emod_of_nonneg (by omega)]; simp [h5])
                    rw [hv]
                    clear hv
                    try clear h0
                    try clear h1
                    try clear h2
                    try clear h3
                    try clear h4
                    try clear h5
                    try clear h6
                    try clear h7
                    try clear h8
                    try clear hm2
                    try clear hm4
                    try clear hm6
                    go_enter Tryz.func72, Tryz.ntmps72
                    go_wp2
                    go_ret
                    exact ⟨rfl, bal (Below.refl _ w) _⟩
                · by_cases hm4 : md = 4
                  · subst hm4
                    by_cases h5 : bt % 4 = 0
                    · have hv : VC sz bt 4 lm rv = true := decide_eq_true (by omega)
                      have q0 : decide (sz < 1) = false := by first | (simp; done) | (simp; omega) | omega | (rw [Int.tmod_eq_emod_of_nonneg (by omega)]; simp; omega) | (rw [Int.tmod_eq_emod_of_nonneg (by omega)]; simp [h5])
                      have q1 : decide (79536 < sz) = false := by first | (simp; done) | (simp; omega) | omega | (rw [Int.tmod_eq_emod_of_nonneg (by omega)]; simp; omega) | (rw [Int.tmod_eq_emod_of_nonneg (by omega)]; simp [h5])
                      have q2 : decide (bt < 0) = false := by first | (simp; done) | (simp; omega) | omega | (rw [Int.tmod_eq_emod_of_nonneg (by omega)]; simp; omega) | (rw [Int.tmod_eq_emod_of_nonneg (by omega)]; simp [h5])
                      have q3 : decide (131072 < bt) = false := by first | (simp; done) | (simp; omega) | omega | (rw [Int.tmod_eq_emod_of_nonneg (by omega)]; simp; omega) | (rw [Int.tmod_eq_emod_of_nonneg (by omega)]; simp [h5])
                      have q4 : decide (lm < 1) = false := by first | (simp; done) | (simp; omega) | omega | (rw [Int.tmod_eq_emod_of_nonneg (by omega)]; simp; omega) | (rw [Int.tmod_eq_emod_of_nonneg (by omega)]; simp [h5])
                      have q5 : decide (rv < 0) = false := by first | (simp; done) | (simp; omega) | omega | (rw [Int.tmod_eq_emod_of_nonneg (by omega)]; simp; omega) | (rw [Int.tmod_eq_emod_of_nonneg (by omega)]; simp [h5])
                      have q6 : decide (3 < rv) = false := by first | (simp; done) | (simp; omega) | omega | (rw [Int.tmod_eq_emod_of_nonneg (by omega)]; simp; omega) | (rw [Int.tmod_eq_emod_of_nonneg (by omega)]; simp [h5])
                      have q7 : (bt % 4 == 0) = true := by first | (simp; done) | (simp; omega) | omega | (rw [Int.tmod_eq_emod_of_nonneg (by omega)]; simp; omega) | (rw [Int.tmod_eq_emod_of_nonneg (by omega)]; simp [h5])
                      have q8 : (bt.tmod 4 == 0) = true := by first | (simp; done) | (simp; omega) | omega | (rw [Int.tmod_eq_emod_of_nonneg (by omega)]; simp; omega) | (rw [Int.tmod_eq_emod_of_nonneg (by omega)]; simp [h5])
                      rw [hv]
                      clear hv
                      try clear h0
                      try clear h1
                      try clear h2
                      try clear h3
                      try clear h4
                      try clear h5
                      try clear h6
                      try clear h7
                      try clear h8
                      try clear hm2
                      try clear hm4
                      try clear hm6
                      go_enter Tryz.func72, Tryz.ntmps72
                      go_wp2
                      go_ret
                      exact ⟨rfl, bal (Below.refl _ w) _⟩
                    · have hv : VC sz bt 4 lm rv = false := decide_eq_false (by omega)
                      have q0 : decide (sz < 1) = false := by first | (simp; done) | (simp; omega) | omega | (rw [Int.tmod_eq_emod_of_nonneg (by omega)]; simp; omega) | (rw [Int.tmod_eq_emod_of_nonneg (by omega)]; simp [h5])
                      have q1 : decide (79536 < sz) = false := by first | (simp; done) | (simp; omega) | omega | (rw [Int.tmod_eq_emod_of_nonneg (by omega)]; simp; omega) | (rw [Int.tmod_eq_emod_of_nonneg (by omega)]; simp [h5])
                      have q2 : decide (bt < 0) = false := by first | (simp; done) | (simp; omega) | omega | (rw [Int.tmod_eq_emod_of_nonneg (by omega)]; simp; omega) | (rw [Int.tmod_eq_emod_of_nonneg (by omega)]; simp [h5])
                      have q3 : decide (131072 < bt) = false := by first | (simp; done) | (simp; omega) | omega | (rw [Int.tmod_eq_emod_of_nonneg (by omega)]; simp; omega) | (rw [Int.tmod_eq_emod_of_nonneg (by omega)]; simp [h5])
                      have q4 : decide (lm < 1) = false := by first | (simp; done) | (simp; omega) | omega | (rw [Int.tmod_eq_emod_of_nonneg (by omega)]; simp; omega) | (rw [Int.tmod_eq_emod_of_nonneg (by omega)]; simp [h5])
                      have q5 : decide (rv < 0) = false := by first | (simp; done) | (simp; omega) | omega | (rw [Int.tmod_eq_emod_of_nonneg (by omega)]; simp; omega) | (rw [Int.tmod_eq_emod_of_nonneg (by omega)]; simp [h5])
                      have q6 : decide (3 < rv) = false := by first | (simp; done) | (simp; omega) | omega | (rw [Int.tmod_eq_emod_of_nonneg (by omega)]; simp; omega) | (rw [Int.tmod_eq_emod_of_nonneg (by omega)]; simp [h5])
                      have q7 : (bt % 4 == 0) = false := by first | (simp; done) | (simp; omega) | omega | (rw [Int.tmod_eq_emod_of_nonneg (by omega)]; simp; omega) | (rw [Int.tmod_eq_emod_of_nonneg (by omega)]; simp [h5])
                      have q8 : (bt.tmod 4 == 0) = false := by first | (simp; done) | (simp; omega) | omega | (rw [Int.tmod_eq_emod_of_nonneg (by omega)]; simp; omega) | (rw [Int.tmod_eq_emod_of_nonneg (by omega)]; simp [h5])
                      rw [hv]
                      clear hv
                      try clear h0
                      try clear h1
                      try clear h2
                      try clear h3
                      try clear h4
                      try clear h5
                      try clear h6
                      try clear h7
                      try clear h8
                      try clear hm2
                      try clear hm4
                      try clear hm6
                      go_enter Tryz.func72, Tryz.ntmps72
                      go_wp2
                      go_ret
                      exact ⟨rfl, bal (Below.refl _ w) _⟩
                  · by_cases hm6 : md = 6
                    · subst hm6
                      by_cases h5 : bt % 6 = 0
                      · have hv : VC sz bt 6 lm rv = true := decide_eq_true (by omega)
                        have q0 : decide (sz < 1) = false := by first | (simp; done) | (simp; omega) | omega | (rw [Int.tmod_eq_emod_of_nonneg (by omega)]; simp; omega) | (rw [Int.tmod_eq_emod_of_nonneg (by omega)]; simp [h5])
                        have q1 : decide (79536 < sz) = false := by first | (simp; done) | (simp; omega) | omega | (rw [Int.tmod_eq_emod_of_nonneg (by omega)]; simp; omega) | (rw [Int.tmod_eq_emod_of_nonneg (by omega)]; simp [h5])
                        have q2 : decide (bt < 0) = false := by first | (simp; done) | (simp; omega) | omega | (rw [Int.tmod_eq_emod_of_nonneg (by omega)]; simp; omega) | (rw [Int.tmod_eq_emod_of_nonneg (by omega)]; simp [h5])
                        have q3 : decide (131072 < bt) = false := by first | (simp; done) | (simp; omega) | omega | (rw [Int.tmod_eq_emod_of_nonneg (by omega)]; simp; omega) | (rw [Int.tmod_eq_emod_of_nonneg (by omega)]; simp [h5])
                        have q4 : decide (lm < 1) = false := by first | (simp; done) | (simp; omega) | omega | (rw [Int.tmod_eq_emod_of_nonneg (by omega)]; simp; omega) | (rw [Int.tmod_eq_emod_of_nonneg (by omega)]; simp [h5])
                        have q5 : decide (rv < 0) = false := by first | (simp; done) | (simp; omega) | omega | (rw [Int.tmod_eq_emod_of_nonneg (by omega)]; simp; omega) | (rw [Int.tmod_eq_emod_of_nonneg (by omega)]; simp [h5])
                        have q6 : decide (3 < rv) = false := by first | (simp; done) | (simp; omega) | omega | (rw [Int.tmod_eq_emod_of_nonneg (by omega)]; simp; omega) | (rw [Int.tmod_eq_emod_of_nonneg (by omega)]; simp [h5])
                        have q7 : (bt % 6 == 0) = true := by first | (simp; done) | (simp; omega) | omega | (rw [Int.tmod_eq_emod_of_nonneg (by omega)]; simp; omega) | (rw [Int.tmod_eq_emod_of_nonneg (by omega)]; simp [h5])
                        have q8 : (bt.tmod 6 == 0) = true := by first | (simp; done) | (simp; omega) | omega | (rw [Int.tmod_eq_emod_of_nonneg (by omega)]; simp; omega) | (rw [Int.tmod_eq_emod_of_nonneg (by omega)]; simp [h5])
                        rw [hv]
                        clear hv
                        try clear h0
                        try clear h1
                        try clear h2
                        try clear h3
                        try clear h4
                        try clear h5
                        try clear h6
                        try clear h7
                        try clear h8
                        try clear hm2
                        try clear hm4
                        try clear hm6
                        go_enter Tryz.func72, Tryz.ntmps72
                        go_wp2
                        go_ret
                        exact ⟨rfl, bal (Below.refl _ w) _⟩
                      · have hv : VC sz bt 6 lm rv = false := decide_eq_false (by omega)
                        have q0 : decide (sz < 1) = false := by first | (simp; done) | (simp; omega) | omega | (rw [Int.tmod_eq_emod_of_nonneg (by omega)]; simp; omega) | (rw [Int.tmod_eq_emod_of_nonneg (by omega)]; simp [h5])
                        have q1 : decide (79536 < sz) = false := by first | (simp; done) | (simp; omega) | omega | (rw [Int.tmod_eq_emod_of_nonneg (by omega)]; simp; omega) | (rw [Int.tmod_eq_emod_of_nonneg (by omega)]; simp [h5])
                        have q2 : decide (bt < 0) = false := by first | (simp; done) | (simp; omega) | omega | (rw [Int.tmod_eq_emod_of_nonneg (by omega)]; simp; omega) | (rw [Int.tmod_eq_emod_of_nonneg (by omega)]; simp [h5])
                        have q3 : decide (131072 < bt) = false := by first | (simp; done) | (simp; omega) | omega | (rw [Int.tmod_eq_emod_of_nonneg (by omega)]; simp; omega) | (rw [Int.tmod_eq_emod_of_nonneg (by omega)]; simp [h5])
                        have q4 : decide (lm < 1) = false := by first | (simp; done) | (simp; omega) | omega | (rw [Int.tmod_eq_emod_of_nonneg (by omega)]; simp; omega) | (rw [Int.tmod_eq_emod_of_nonneg (by omega)]; simp [h5])
                        have q5 : decide (rv < 0) = false := by first | (simp; done) | (simp; omega) | omega | (rw [Int.tmod_eq_emod_of_nonneg (by omega)]; simp; omega) | (rw [Int.tmod_eq_emod_of_nonneg (by omega)]; simp [h5])
                        have q6 : decide (3 < rv) = false := by first | (simp; done) | (simp; omega) | omega | (rw [Int.tmod_eq_emod_of_nonneg (by omega)]; simp; omega) | (rw [Int.tmod_eq_emod_of_nonneg (by omega)]; simp [h5])
                        have q7 : (bt % 6 == 0) = false := by first | (simp; done) | (simp; omega) | omega | (rw [Int.tmod_eq_emod_of_nonneg (by omega)]; simp; omega) | (rw [Int.tmod_eq_emod_of_nonneg (by omega)]; simp [h5])
                        have q8 : (bt.tmod 6 == 0) = false := by first | (simp; done) | (simp; omega) | omega | (rw [Int.tmod_eq_emod_of_nonneg (by omega)]; simp; omega) | (rw [Int.tmod_eq_emod_of_nonneg (by omega)]; simp [h5])
                        rw [hv]
                        clear hv
                        try clear h0
                        try clear h1
                        try clear h2
                        try clear h3
                        try clear h4
                        try clear h5
                        try clear h6
                        try clear h7
                        try clear h8
                        try clear hm2
                        try clear hm4
                        try clear hm6
                        go_enter Tryz.func72, Tryz.ntmps72
                        go_wp2
                        go_ret
                        exact ⟨rfl, bal (Below.refl _ w) _⟩
                    · have hv : VC sz bt md lm rv = false := decide_eq_false (by omega)
                      have q0 : decide (sz < 1) = false := by first | (simp; done) | (simp; omega) | omega | (rw [Int.tmod_eq_emod_of_nonneg (by omega)]; simp; omega) | (rw [Int.tmod_eq_emod_of_nonneg (by omega)]; simp [h5])
                      have q1 : decide (79536 < sz) = false := by first | (simp; done) | (simp; omega) | omega | (rw [Int.tmod_eq_emod_of_nonneg (by omega)]; simp; omega) | (rw [Int.tmod_eq_emod_of_nonneg (by omega)]; simp [h5])
                      have q2 : decide (bt < 0) = false := by first | (simp; done) | (simp; omega) | omega | (rw [Int.tmod_eq_emod_of_nonneg (by omega)]; simp; omega) | (rw [Int.tmod_eq_emod_of_nonneg (by omega)]; simp [h5])
                      have q3 : decide (131072 < bt) = false := by first | (simp; done) | (simp; omega) | omega | (rw [Int.tmod_eq_emod_of_nonneg (by omega)]; simp; omega) | (rw [Int.tmod_eq_emod_of_nonneg (by omega)]; simp [h5])
                      have q4 : decide (lm < 1) = false := by first | (simp; done) | (simp; omega) | omega | (rw [Int.tmod_eq_emod_of_nonneg (by omega)]; simp; omega) | (rw [Int.tmod_eq_emod_of_nonneg (by omega)]; simp [h5])
                      have q5 : decide (rv < 0) = false := by first | (simp; done) | (simp; omega) | omega | (rw [Int.tmod_eq_emod_of_nonneg (by omega)]; simp; omega) | (rw [Int.tmod_eq_emod_of_nonneg (by omega)]; simp [h5])
                      have q6 : decide (3 < rv) = false := by first | (simp; done) | (simp; omega) | omega | (rw [Int.tmod_eq_emod_of_nonneg (by omega)]; simp; omega) | (rw [Int.tmod_eq_emod_of_nonneg (by omega)]; simp [h5])
                      have q7 : (md == 2) = false := by first | (simp; done) | (simp; omega) | omega | (rw [Int.tmod_eq_emod_of_nonneg (by omega)]; simp; omega) | (rw [Int.tmod_eq_emod_of_nonneg (by omega)]; simp [h5])
                      have q8 : (md == 4) = false := by first | (simp; done) | (simp; omega) | omega | (rw [Int.tmod_eq_emod_of_nonneg (by omega)]; simp; omega) | (rw [Int.tmod_eq_emod_of_nonneg (by omega)]; simp [h5])
                      have q9 : (md == 6) = false := by first | (simp; done) | (simp; omega) | omega | (rw [Int.tmod_eq_emod_of_nonneg (by omega)]; simp; omega) | (rw [Int.tmod_eq_emod_of_nonneg (by omega)]; simp [h5])
                      rw [hv]
                      clear hv
                      try clear h0
                      try clear h1
                      try clear h2
                      try clear h3
                      try clear h4
                      try clear h5
                      try clear h6
                      try clear h7
                      try clear h8
                      try clear hm2
                      try clear hm4
                      try clear hm6
                      go_enter Tryz.func72, Tryz.ntmps72
                      go_wp2
                      go_ret
                      exact ⟨rfl, bal (Below.refl _ w) _⟩
              · have hv : VC sz bt md lm rv = false := decide_eq_false (by omega)
                have q0 : decide (sz < 1) = false := by first | (simp; done) | (simp; omega) | omega | (rw [Int.tmod_eq_emod_of_nonneg (by omega)]; simp; omega) | (rw [Int.tmod_eq_emod_of_nonneg (by omega)]; simp [h5])
                have q1 : decide (79536 < sz) = false := by first | (simp; done) | (simp; omega) | omega | (rw [Int.tmod_eq_emod_of_nonneg (by omega)]; simp; omega) | (rw [Int.tmod_eq_emod_of_nonneg (by omega)]; simp [h5])
                have q2 : decide (bt < 0) = false := by first | (simp; done) | (simp; omega) | omega | (rw [Int.tmod_eq_emod_of_nonneg (by omega)]; simp; omega) | (rw [Int.tmod_eq_emod_of_nonneg (by omega)]; simp [h5])
                have q3 : decide (131072 < bt) = false := by first | (simp; done) | (simp; omega) | omega | (rw [Int.tmod_eq_emod_of_nonneg (by omega)]; simp; omega) | (rw [Int.tmod_eq_emod_of_nonneg (by omega)]; simp [h5])
                have q4 : decide (lm < 1) = false := by first | (simp; done) | (simp; omega) | omega | (rw [Int.tmod_eq_emod_of_nonneg (by omega)]; simp; omega) | (rw [Int.tmod_eq_emod_of_nonneg (by omega)]; simp [h5])
                have q5 : decide (rv < 0) = false := by first | (simp; done) | (simp; omega) | omega | (rw [Int.tmod_eq_emod_of_nonneg (by omega)]; simp; omega) | (rw [Int.tmod_eq_emod_of_nonneg (by omega)]; simp [h5])
                have q6 : decide (3 < rv) = true := by first | (simp; done) | (simp; omega) | omega | (rw [Int.tmod_eq_emod_of_nonneg (by omega)]; simp; omega) | (rw [Int.tmod_eq_emod_of_nonneg (by omega)]; simp [h5])
                rw [hv]
                clear hv
                try clear h0
                try clear h1
                try clear h2
                try clear h3
                try clear h4
                try clear h5
                try clear h6
                try clear h7
                try clear h8
                try clear hm2
                try clear hm4
                try clear hm6
                go_enter Tryz.func72, Tryz.ntmps72
                go_wp2
                go_ret
                exact ⟨rfl, bal (Below.refl _ w) _⟩
            · have hv : VC sz bt md lm rv = false := decide_eq_false (by omega)
              have q0 : decide (sz < 1) = false := by first | (simp; done) | (simp; omega) | omega | (rw [Int.tmod_eq_emod_of_nonneg (by omega)]; simp; omega) | (rw [Int.tmod_eq_emod_of_nonneg (by omega)]; simp [h5])
              have q1 : decide (79536 < sz) = false := by first | (simp; done) | (simp; omega) | omega | (rw [Int.tmod_eq_emod_of_nonneg (by omega)]; simp; omega) | (rw [Int.tmod_eq_emod_of_nonneg (by omega)]; simp [h5])
              have q2 : decide (bt < 0) = false := by first | (simp; done) | (simp; omega) | omega | (rw [Int.tmod_eq_emod_of_nonneg (by omega)]; simp; omega) | (rw [Int.tmod_eq_emod_of_nonneg (by omega)]; simp [h5])
              have q3 : decide (131072 < bt) = false := by first | (simp; done) | (simp; omega) | omega | (rw [Int.tmod_eq_emod_of_nonneg (by omega)]; simp; omega) | (rw [Int.tmod_eq_emod_of_nonneg (by omega)]; simp [h5])
              have q4 : decide (lm < 1) = false := by first | (simp; done) | (simp; omega) | omega | (rw [Int.tmod_eq_emod_of_nonneg (by omega)]; simp; omega) | (rw [Int.tmod_eq_emod_of_nonneg (by omega)]; simp [h5])
              have q5 : decide (rv < 0) = true := by first | (simp; done) | (simp; omega) | omega | (rw [Int.tmod_eq_emod_of_nonneg (by omega)]; simp; omega) | (rw [Int.tmod_eq_emod_of_nonneg (by omega)]; simp [h5])
              rw [hv]
              clear hv
              try clear h0
              try clear h1
              try clear h2
              try clear h3
              try clear h4
              try clear h5
              try clear h6
              try clear h7
              try clear h8
              try clear hm2
              try clear hm4
              try clear hm6
              go_enter Tryz.func72, Tryz.ntmps72
              go_wp2
              go_ret
              exact ⟨rfl, bal (Below.refl _ w) _⟩
          · have hv : VC sz bt md lm rv = false := decide_eq_false (by omega)
            have q0 : decide (sz < 1) = false := by first | (simp; done) | (simp; omega) | omega | (rw [Int.tmod_eq_emod_of_nonneg (by omega)]; simp; omega) | (rw [Int.tmod_eq_emod_of_nonneg (by omega)]; simp [h5])
            have q1 : decide (79536 < sz) = false := by first | (simp; done) | (simp; omega) | omega | (rw [Int.tmod_eq_emod_of_nonneg (by omega)]; simp; omega) | (rw [Int.tmod_eq_emod_of_nonneg (by omega)]; simp [h5])
            have q2 : decide (bt < 0) = false := by first | (simp; done) | (simp; omega) | omega | (rw [Int.tmod_eq_emod_of_nonneg (by omega)]; simp; omega) | (rw [Int.tmod_eq_emod_of_nonneg (by omega)]; simp [h5])
            have q3 : decide (131072 < bt) = false := by first | (simp; done) | (simp; omega) | omega | (rw [Int.tmod_eq_emod_of_nonneg (by omega)]; simp; omega) | (rw [Int.tmod_eq_emod_of_nonneg (by omega)]; simp [h5])
            have q4 : decide (lm < 1) = true := by first | (simp; done) | (simp; omega) | omega | (rw [Int.tmod_eq_emod_of_nonneg (by omega)]; simp; omega) | (rw [Int.tmod_eq_emod_of_nonneg (by omega)]; simp [h5])
            rw [hv]
            clear hv
            try clear h0
            try clear h1
            try clear h2
            try clear h3
            try clear h4
            try clear h5
            try clear h6
            try clear h7
            try clear h8
            try clear hm2
            try clear hm4
            try clear hm6
            go_enter Tryz.func72, Tryz.ntmps72
            go_wp2
            go_ret
            exact ⟨rfl, bal (Below.refl _ w) _⟩
        · have hv : VC sz bt md lm rv = false := decide_eq_false (by omega)
          have q0 : decide (sz < 1) = false := by first | (simp; done) | (simp; omega) | omega | (rw [Int.tmod_eq_emod_of_nonneg (by omega)]; simp; omega) | (rw [Int.tmod_eq_emod_of_nonneg (by omega)]; simp [h5])
          have q1 : decide (79536 < sz) = false := by first | (simp; done) | (simp; omega) | omega | (rw [Int.tmod_eq_emod_of_nonneg (by omega)]; simp; omega) | (rw [Int.tmod_eq_emod_of_nonneg (by omega)]; simp [h5])
          have q2 : decide (bt < 0) = false := by first | (simp; done) | (simp; omega) | omega | (rw [Int.tmod_eq_emod_of_nonneg (by omega)]; simp; omega) | (rw [Int.tmod_eq_emod_of_nonneg (by omega)]; simp [h5])
          have q3 : decide (131072 < bt) = true := by first | (simp; done) | (simp; omega) | omega | (rw [Int.tmod_eq_emod_of_nonneg (by omega)]; simp; omega) | (rw [Int.tmod_eq_emod_of_nonneg (by omega)]; simp [h5])
          rw [hv]
          clear hv
          try clear h0
          try clear h1
          try clear h2
          try clear h3
          try clear h4
          try clear h5
          try clear h6
          try clear h7
          try clear h8
          try clear hm2
          try clear hm4
          try clear hm6
          go_enter Tryz.func72, Tryz.ntmps72
          go_wp2
          go_ret
          exact ⟨rfl, bal (Below.refl _ w) _⟩
      · have hv : VC sz bt md lm rv = false := decide_eq_false (by omega)
        have q0 : decide (sz < 1) = false := by first | (simp; done) | (simp; omega) | omega | (rw [Int.tmod_eq_emod_of_nonneg (by omega)]; simp; omega) | (rw [Int.tmod_eq_emod_of_nonneg (by omega)]; simp [h5])
        have q1 : decide (79536 < sz) = false := by first | (simp; done) | (simp; omega) | omega | (rw [Int.tmod_eq_emod_of_nonneg (by omega)]; simp; omega) | (rw [Int.tmod_eq_emod_of_nonneg (by omega)]; simp [h5])
        have q2 : decide (bt < 0) = true := by first | (simp; done) | (simp; omega) | omega | (rw [Int.tmod_eq_emod_of_nonneg (by omega)]; simp; omega) | (rw [Int.tmod_eq_emod_of_nonneg (by omega)]; simp [h5])
        rw [hv]
        clear hv
        try clear h0
        try clear h1
        try clear h2
        try clear h3
        try clear h4
        try clear h5
        try clear h6
        try clear h7
        try clear h8
        try clear hm2
        try clear hm4
        try clear hm6
        go_enter Tryz.func72, Tryz.ntmps72
        go_wp2
        go_ret
        exact ⟨rfl, bal (Below.refl _ w) _⟩
    · have hv : VC sz bt md lm rv = false := decide_eq_false (by omega)
      have q0 : decide (sz < 1) = false := by first | (simp; done) | (simp; omega) | omega | (rw [Int.tmod_eq_emod_of_nonneg (by omega)]; simp; omega) | (rw [Int.tmod_eq_emod_of_nonneg (by omega)]; simp [h5])
      have q1 : decide (79536 < sz) = true := by first | (simp; done) | (simp; omega) | omega | (rw [Int.tmod_eq_emod_of_nonneg (by omega)]; simp; omega) | (rw [Int.tmod_eq_emod_of_nonneg (by omega)]; simp [h5])
      rw [hv]
      clear hv
      try clear h0
      try clear h1
      try clear h2
      try clear h3
      try clear h4
      try clear h5
      try clear h6
      try clear h7
      try clear h8
      try clear hm2
      try clear hm4
      try clear hm6
      go_enter Tryz.func72, Tryz.ntmps72
      go_wp2
      go_ret
      exact ⟨rfl, bal (Below.refl _ w) _⟩
  · have hv : VC sz bt md lm rv = false := decide_eq_false (by omega)
    have q0 : decide (sz < 1) = true := by first | (simp; done) | (simp; omega) | omega | (rw [Int.tmod_eq_emod_of_nonneg (by omega)]; simp; omega) | (rw [Int.tmod_eq_emod_of_nonneg (by omega)]; simp [h5])
    rw [hv]
    clear hv
    try clear h0
    try clear h1
    try clear h2
    try clear h3
    try clear h4
    try clear h5
    try clear h6
    try clear h7
    try clear h8
    try clear hm2
    try clear hm4
    try clear hm6
    go_enter Tryz.func72, Tryz.ntmps72
    go_wp2
    go_ret
    exact ⟨rfl, bal (Below.refl _ w) _⟩
end Go.Proofs.YtcbbkflnenkpgaaGreat
