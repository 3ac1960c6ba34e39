/- The reference's pick over any row of numbers, and that it is the program's: for every row and every open place. -/
import Derived.Test.YtcpkbhoocblpjaaV1
import Derived.Deep.QuietTactic
import Derived.BigQuiet
namespace Go.Proofs.Ytcpkbhoocblpjaa
open Go.RowKit

def rstep (zs : List Int) (op : Int) (b : Int) (k : Nat) : Int :=
  if 1 ≤ zs[k]?.getD 0 ∧ (k : Int) ≠ op ∧ (b < 0 ∨ zs[k]?.getD 0 < zs[b.toNat]?.getD 0) then (k : Int) else b
def rfold (zs : List Int) (op : Int) : Nat → Int
  | 0 => -1
  | k + 1 => rstep zs op (rfold zs op k) k
theorem rfold_lt (zs : List Int) (op : Int) (k : Nat) : -1 ≤ rfold zs op k ∧ rfold zs op k < k := by
  induction k with
  | zero => simp [rfold]
  | succ k ih => unfold rfold rstep; split <;> omega

theorem rf_no {zs : List Int} {op : Int} {k : Nat} (h : ¬ (1 ≤ zs[k]?.getD 0 ∧ (k : Int) ≠ op ∧ (rfold zs op k < 0 ∨ zs[k]?.getD 0 < zs[(rfold zs op k).toNat]?.getD 0))) : rfold zs op (k + 1) = rfold zs op k := by
  show rstep _ _ _ _ = _; unfold rstep; rw [if_neg h]
theorem rf_yes {zs : List Int} {op : Int} {k : Nat} (h : 1 ≤ zs[k]?.getD 0 ∧ (k : Int) ≠ op ∧ (rfold zs op k < 0 ∨ zs[k]?.getD 0 < zs[(rfold zs op k).toNat]?.getD 0)) : rfold zs op (k + 1) = (k : Int) := by
  show rstep _ _ _ _ = _; unfold rstep; rw [if_pos h]

/-- The fold of the iterator's pick holds the reference's: the best place, and what it holds. -/
theorem pfold_rfold (zs : List Int) (op : Int) (k : Nat) : (pfold (cand zs op k)).1 = rfold zs op k ∧ (0 ≤ rfold zs op k → (pfold (cand zs op k)).2 = zs[(rfold zs op k).toNat]?.getD 0) := by
  induction k with
  | zero => simp [cand, pfold, rfold]
  | succ k ih =>
    obtain ⟨ih1, ih2⟩ := ih
    by_cases h1 : 1 ≤ zs[k]?.getD 0
    · by_cases h2 : (k : Int) = op
      · rw [cand_no1 (by simp [h2]), rf_no (by omega)]; exact ⟨ih1, ih2⟩
      · rw [cand_yes h1 (by simpa using h2), pfold_snoc]
        by_cases h3 : rfold zs op k < 0 ∨ zs[k]?.getD 0 < zs[(rfold zs op k).toNat]?.getD 0
        · rw [rf_yes ⟨h1, h2, h3⟩, pstep_yes (by
            by_cases h4 : rfold zs op k < 0
            · exact .inl (by omega)
            · rcases h3 with h3 | h3
              · exact absurd h3 h4
              · exact .inr (by rw [ih2 (by omega)]; exact h3))]
          exact ⟨rfl, fun _ => by simp⟩
        · rw [rf_no (fun h => h3 h.2.2), pstep_no]
          · exact ⟨ih1, ih2⟩
          · rw [ih1, ih2 (by omega)]; exact h3
    · rw [cand_no2 h1, rf_no (by omega)]; exact ⟨ih1, ih2⟩

theorem pick_rfold (zs : List Int) (op : Int) : pick zs op = rfold zs op zs.length := (pfold_rfold zs op zs.length).1

set_option maxRecDepth 100000 in
set_option maxHeartbeats 1600000 in
theorem pick_r (a : Option Addr) (len cap : Nat) (op : Int) (zs : List Int) (hreach : zs.length * 8 ≤ 140737488351232) (w : World) (hI : Ints w.heap.size w (.slice a len cap) zs) :
    Calls Try.prog 16 #[.slice a len cap, .int .i64 op] w fun e W' => e = .returned (.int .i64 (pick zs op)) ∧ ∃ n, W' = w.drewN n := by
  rw [pick_rfold]
  rcases hI with ⟨rfl, ao, cap', hsv, _⟩ | ⟨b, off, cap', hsv, hb, hc⟩
  · cases hsv
    go_enter Try.func16, Try.ntmps16
    go_wp2
    go_loop [5, 6] (fun t i => i = .int .i64 0 ∧ t = .int .i64 (-1)) (fun _ _ => 0)
    case atStart => exact ⟨rfl, rfl⟩
    case round =>
      obtain ⟨rfl, rfl⟩ := hrel
      go_wp2
      go_ret
      exact ⟨rfl, 0, rfl⟩
  · cases hsv
    go_enter Try.func16, Try.ntmps16
    go_wp2
    go_loopw [5, 6] (fun t i wr => ∃ k : Nat, k ≤ zs.length ∧ i = .int .i64 k ∧ t = .int .i64 (rfold zs op k) ∧ ∃ n, wr = w.drewN n) (fun _ i _ => zs.length - (intOf i).toNat)
    case atStart => exact ⟨0, Nat.zero_le _, rfl, rfl, 0, rfl⟩
    case round =>
      obtain ⟨k, hk, rfl, rfl, m, rfl⟩ := hrel
      by_cases hlt : k < zs.length
      · have hck := hc k hlt
        have hrl := rfold_lt zs op k
        have Hc := Lib.hid hc
        clear hc
        generalize hx : zs[k]?.getD 0 = x at *
        have Hx := Lib.hid hx
        clear hx
        by_cases h1 : 1 ≤ x
        · by_cases h2 : ((k : Int) != op) = true
          · by_cases h3 : rfold zs op k < 0
            · have HC := Lib.hid (rf_yes (zs := zs) (op := op) (k := k) ⟨by rw [Hx.out]; exact h1, by simpa using h2, .inl h3⟩)
              generalize hbb : rfold zs op k = bb at *
              clear hbb
              go_wp2
              go_quiet (fail)
              go_wp2
              go_roundw
              case rel => exact ⟨k + 1, by omega, by go_num, by rw [HC.out], m + nq, by simp⟩
              case measure => simp [intOf]; omega
            · obtain ⟨q, hq⟩ : ∃ q : Nat, rfold zs op k = q := ⟨(rfold zs op k).toNat, by omega⟩
              have hqk : q < k := by omega
              have hql : (q : Int) < (zs.length : Int) := by omega
              have hcq := Hc.out q (by omega)
              generalize hy : zs[q]?.getD 0 = y at *
              by_cases h4 : x < y
              · have HC := Lib.hid (rf_yes (zs := zs) (op := op) (k := k) ⟨by rw [Hx.out]; exact h1, by simpa using h2, .inr (by rw [Hx.out, hq, Int.toNat_natCast, hy]; exact h4)⟩)
                rw [hq]
                clear hq hy h3 hrl
                go_wp2
                go_quiet (fail)
                go_wp2
                go_roundw
                case rel => exact ⟨k + 1, by omega, by go_num, by rw [HC.out], m + nq, by simp⟩
                case measure => simp [intOf]; omega
              · have HC := Lib.hid ((rf_no (zs := zs) (op := op) (k := k) (by rw [Hx.out, hq, Int.toNat_natCast, hy]; omega)).trans hq)
                have h4' : decide (x < y) = false := by simpa using h4
                rw [hq]
                clear hq hy h3 hrl h4
                go_wp2
                go_quiet (fail)
                go_wp2
                go_roundw
                case rel => exact ⟨k + 1, by omega, by go_num, by rw [HC.out], m + nq, by simp⟩
                case measure => simp [intOf]; omega
          · have h2' : ((k : Int) != op) = false := by simpa using h2
            have HC := Lib.hid (rf_no (zs := zs) (op := op) (k := k) (by simp at h2'; omega))
            clear h2
            generalize hbb : rfold zs op k = bb at *
            clear hbb
            go_wp2
            go_quiet (fail)
            go_wp2
            go_roundw
            case rel => exact ⟨k + 1, by omega, by go_num, by rw [HC.out], m + nq, by simp⟩
            case measure => simp [intOf]; omega
        · have HC := Lib.hid (rf_no (zs := zs) (op := op) (k := k) (by rw [Hx.out]; omega))
          have h1' : decide (1 ≤ x) = false := by simpa using h1
          generalize hbb : rfold zs op k = bb at *
          clear hbb
          go_wp2
          go_quiet (fail)
          go_wp2
          go_roundw
          case rel => exact ⟨k + 1, by omega, by go_num, by rw [HC.out], m + nq, by simp⟩
          case measure => simp [intOf]; omega
      · obtain rfl : k = zs.length := by omega
        go_wp2
        go_ret
        exact ⟨rfl, _, rfl⟩

end Go.Proofs.Ytcpkbhoocblpjaa
