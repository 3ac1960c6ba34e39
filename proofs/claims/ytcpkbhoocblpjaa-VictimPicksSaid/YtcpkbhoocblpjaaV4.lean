/- The kit's kept rows of numbers: a lent row that nobody wrote is kept, for every row of up to 5000 places. -/
import Derived.Test.YtcpkbhoocblpjaaV3
namespace Go.Proofs.Ytcpkbhoocblpjaa
open Go.RowKit

/-- w' is w, some draws later. -/
def Drawn (w w' : World) : Prop := ∃ n, w' = w.drewN n
theorem Drawn.refl (w : World) : Drawn w w := ⟨0, rfl⟩
theorem Drawn.trans {a b c : World} (h : Drawn a b) (k : Drawn b c) : Drawn a c := by
  obtain ⟨n, rfl⟩ := h; obtain ⟨m, rfl⟩ := k; exact ⟨n + m, by simp⟩
theorem Drawn.drewN {a b : World} (h : Drawn a b) (n : Nat) : Drawn a (b.drewN n) := h.trans ⟨n, rfl⟩
theorem Drawn.heap {a b : World} (h : Drawn a b) : b.heap = a.heap := by
  obtain ⟨n, rfl⟩ := h; rfl
theorem Drawn.cell {a b : World} (h : Drawn a b) (p : Addr) : b.cell? p = a.cell? p := World.cell?_of_block (by rw [h.heap])
theorem Drawn.below {a b : World} (h : Drawn a b) (B : Nat) : Below B a b := by
  obtain ⟨n, rfl⟩ := h; exact ⟨rfl, rfl, rfl, Nat.le_refl _, fun _ _ => rfl⟩
theorem Ints.drawn {n₀ : Nat} {A B : World} (h : Drawn A B) {sv : Value} {zs : List Int} (hi : Ints n₀ A sv zs) : Ints n₀ B sv zs := hi.below (h.below n₀)

theorem mk_at_lo {zs : List Int} {k : Nat} (h : k < zs.length) : (mk zs 12)[k]? = some (.int .i64 (zs[k]?.getD 0)) := by
  unfold mk; rw [List.getElem?_map, List.getElem?_append_left h]; simp [h]
theorem mk_at_hi {zs : List Int} {k : Nat} (h : zs.length ≤ k) (h2 : k < zs.length + 12) : (mk zs 12)[k]? = some (.int .i64 (mark 1 ((k : Int) - (zs.length : Int)))) := by
  unfold mk
  rw [List.getElem?_map, List.getElem?_append_right h]
  have : k - zs.length < 12 := by omega
  simp [marks, this, show ((k - zs.length : Nat) : Int) = (k : Int) - (zs.length : Int) by omega]

theorem mark_q (k i : Int) (w : World) : Calls Try.prog 31 #[.int .i64 k, .int .i64 i] w fun e w' => e = .returned (.int .i64 (mark k i)) ∧ w' = w :=
  (mark_any k i w).mono fun _ _ h => ⟨h.1, h.2.symm⟩

set_option maxRecDepth 100000 in
set_option maxHeartbeats 1600000 in
theorem kept (n₀ g C : Nat) (a : Option Addr) (len cap : Nat) (zs : List Int) (hlen : zs.length ≤ 5000) (w : World) (hI : Ints n₀ w (.slice a len cap) zs)
    (hC : zs.length + 12 ≤ C) (hcells : ∀ j, j < zs.length + 12 → w.cell? ⟨g, j, none⟩ = (mk zs 12)[j]?) :
    Calls Try.prog 17 #[.slice (some ⟨g, 0, none⟩) zs.length C, .slice a len cap] w fun e w' => e = .returned (.bool true) ∧ Drawn w w' := by
  obtain ⟨hl, _, _⟩ := hI.cells
  subst hl
  have hself : ((zs.length : Int) != (zs.length : Int)) = false := by simp
  go_enter Try.func17, Try.ntmps17
  go_wp2
  go_loopw [6] (fun i wr => ∃ k : Nat, k ≤ zs.length + 12 ∧ i = .int .i64 k ∧ Drawn w wr) (fun i _ => zs.length + 12 - (intOf i).toNat)
  case atStart => exact ⟨0, by omega, rfl, Drawn.refl _⟩
  case round =>
    obtain ⟨k, hk, rfl, hD⟩ := hrel
    by_cases hlt : k < zs.length + 12
    · have hck := (hD.cell _).trans (hcells k hlt)
      by_cases hlo : k < zs.length
      · rw [mk_at_lo hlo] at hck
        rcases hI with ⟨rfl, _⟩ | ⟨b, off, cap', hsv, hb, hc⟩
        · simp at hlo
        · cases hsv
          have hcx := (hD.cell _).trans (hc k hlo)
          have hlo' : (k : Int) < (zs.length : Int) := by omega
          have hge : decide (zs.length ≤ k) = false := by simp; omega
          clear hc hcells
          generalize zs[k]?.getD 0 = x at *
          go_wp2
          go_quiet (fail)
          go_wp2
          go_roundw
          case rel => exact ⟨k + 1, by omega, by go_num, hD.drewN _⟩
          case measure => simp [intOf]; omega
      · have hlo2 : zs.length ≤ k := by omega
        rw [mk_at_hi hlo2 hlt] at hck
        have hlo1 : decide (k < zs.length) = false := by simp; omega
        have hhi1 : (zs.length : Int) ≤ (k : Int) := by omega
        have hwr : IntKind.i64.wrap ((k : Int) - (zs.length : Int)) = (k : Int) - (zs.length : Int) := IntWalk.i64_in _ (by omega)
        clear hI hcells
        go_wp2
        go_quiet ((go_at_call 31; exact Calls.quiet_of_same (mark_q _ _ _)))
        go_wp2
        go_roundw
        case rel => exact ⟨k + 1, by omega, by go_num, hD.drewN _⟩
        case measure => simp [intOf]; omega
    · obtain rfl : k = zs.length + 12 := by omega
      go_wp2
      go_ret
      exact ⟨rfl, hD⟩

end Go.Proofs.Ytcpkbhoocblpjaa
