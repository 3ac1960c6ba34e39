/- Small contracts of victim, its reference and the kit: what each call answers, for every whole number. -/
import Derived.Test.YtcpkbhoocblpjaaRows
import Derived.WalkKit
import Derived.WalkSpells
import Derived.WalkLawsBesides
import Derived.Lib.Hide
namespace Go.Proofs.Ytcpkbhoocblpjaa
open Go.RowKit

theorem rint {k : IntKind} {a b : Int} (h : a = b) : Ending.returned (.int k a) = .returned (.int k b) := by rw [h]
theorem rbool {a b : Bool} (h : a = b) : Ending.returned (.bool a) = .returned (.bool b) := by rw [h]

def worth (u s : Int) : Int := if u < 1 ∨ s < u then 0 else wrap64 (s - u)
theorem worth_0 {u s : Int} (h : u < 1 ∨ s < u) : 0 = worth u s := by unfold worth; rw [if_pos h]
theorem worth_1 {u s : Int} (h : 1 ≤ u) (h2 : u ≤ s) : wrap64 (s - u) = worth u s := by unfold worth; rw [if_neg (by omega)]

set_option maxHeartbeats 400000 in
theorem worth_p (u s : Int) (w : World) : Calls Try.prog 18 #[.int .i64 u, .int .i64 s] w fun e w' => e = .returned (.int .i64 (worth u s)) ∧ w = w' := by
  by_cases h1 : u < 1
  · go_enter Try.func18, Try.ntmps18
    go_wp2
    go_ret
    exact ⟨rint (worth_0 (.inl h1)), rfl⟩
  · by_cases h2 : s < u
    · go_enter Try.func18, Try.ntmps18
      go_wp2
      go_ret
      exact ⟨rint (worth_0 (.inr h2)), rfl⟩
    · go_enter Try.func18, Try.ntmps18
      go_wp2
      go_ret
      exact ⟨rint (worth_1 (by omega) (by omega)), rfl⟩

set_option maxHeartbeats 400000 in
theorem worth_r (u s : Int) (w : World) : Calls Try.prog 19 #[.int .i64 u, .int .i64 s] w fun e w' => e = .returned (.int .i64 (worth u s)) ∧ w = w' := by
  by_cases h1 : u < 1
  · go_enter Try.func19, Try.ntmps19
    go_wp2
    go_ret
    exact ⟨rint (worth_0 (.inl h1)), rfl⟩
  · by_cases h2 : s < u
    · go_enter Try.func19, Try.ntmps19
      go_wp2
      go_ret
      exact ⟨rint (worth_0 (.inr h2)), rfl⟩
    · go_enter Try.func19, Try.ntmps19
      go_wp2
      go_ret
      exact ⟨rint (worth_1 (by omega) (by omega)), rfl⟩

/-- Pick of the kit at n from 1 on: the rest of x by n, from 0 on. -/
theorem emod_tmod1 (x n : Int) (hn : 1 ≤ n) (h : x.tmod n < 0) : x.tmod n + n = x % n := by
  have h0 := Int.emod_nonneg x (show n ≠ 0 by omega)
  have h1 := Int.emod_lt_of_pos x (show 0 < n by omega)
  rw [Int.tmod_eq_emod] at h ⊢
  split at h <;> split <;> omega
theorem emod_tmod2 (x n : Int) (hn : 1 ≤ n) (h : 0 ≤ x.tmod n) : x.tmod n = x % n := by
  have h0 := Int.emod_nonneg x (show n ≠ 0 by omega)
  have h1 := Int.emod_lt_of_pos x (show 0 < n by omega)
  rw [Int.tmod_eq_emod] at h ⊢
  split at h <;> split <;> omega

set_option maxHeartbeats 400000 in
theorem kpick (x n : Int) (hn : 1 ≤ n) (hn2 : n ≤ 4611686018427387904) (w : World) : Calls Try.prog 20 #[.int .i64 x, .int .i64 n] w fun e w' => e = .returned (.int .i64 (x % n)) ∧ w = w' := by
  have hb : x.tmod n < n := Int.tmod_lt_of_pos x (by omega)
  have hb2 : -n < x.tmod n := Int.lt_tmod_of_pos x (by omega)
  by_cases h : x.tmod n < 0
  · go_enter Try.func20, Try.ntmps20
    go_wp2
    go_ret
    exact ⟨rint (emod_tmod1 x n hn h), rfl⟩
  · go_enter Try.func20, Try.ntmps20
    go_wp2
    go_ret
    exact ⟨rint (emod_tmod2 x n hn (by omega)), rfl⟩

def mark (k i : Int) : Int := wrap64 (wrap64 (1000003 * wrap64 (k + 7)) + i)
set_option maxHeartbeats 400000 in
theorem mark_any (k i : Int) (w : World) : Calls Try.prog 31 #[.int .i64 k, .int .i64 i] w fun e w' => e = .returned (.int .i64 (mark k i)) ∧ w = w' := by
  unfold mark
  go_enter Try.func31, Try.ntmps31
  go_wp2
  go_ret
  exact ⟨rfl, rfl⟩

end Go.Proofs.Ytcpkbhoocblpjaa
