/- The kit's lent and kept rows of numbers, for every row of up to 5000 places. -/
import Derived.Test.YtcpkbhoocblpjaaV2
import Derived.Maps.AppendAt
namespace Go.Proofs.Ytcpkbhoocblpjaa
open Go.RowKit

theorem info3 : (Try.prog.info? 3).map (fun i => (i.zero, i.size, i.bytes)) = some (some (.int .i64 0), 1, 8) := by kernel_rfl

/-- The spare room: i marks. -/
def marks (i : Nat) : List Int := (List.range i).map fun (j : Nat) => mark 1 (j : Int)
theorem marks_len (i : Nat) : (marks i).length = i := by simp [marks]
theorem marks_succ (i : Nat) : marks (i + 1) = marks i ++ [mark 1 (i : Int)] := by simp [marks, List.range_succ]
def mk (zs : List Int) (i : Nat) : List Value := (zs ++ marks i).map (Value.int .i64)
theorem mk_succ (zs : List Int) (i : Nat) : mk zs (i + 1) = mk zs i ++ [.int .i64 (mark 1 (i : Int))] := by simp [mk, marks_succ]
theorem mk_zero (zs : List Int) : mk zs 0 = zs.map (Value.int .i64) := by simp [mk, marks]

theorem Ints.cells {n₀ : Nat} {W : World} {a : Option Addr} {len cap : Nat} {zs : List Int} (h : Ints n₀ W (.slice a len cap) zs) :
    len = zs.length ∧ (a = none → len = 0 ∧ cap = 0) ∧ ∀ ad, a = some ad → ∀ j u, (zs.map (Value.int .i64))[j]? = some u → W.cell? (ad.add j) = some u := by
  rcases h with ⟨rfl, ao, cap', h, h0⟩ | ⟨b, off, cap', h, hb, hc⟩
  · cases h
    exact ⟨rfl, fun h => ⟨rfl, h0 h⟩, fun ad _ j u hu => by simp at hu⟩
  · cases h
    refine ⟨rfl, (fun h => by cases h), fun ad h => ?_⟩
    cases h
    intro j u hu
    have hj : j < zs.length := by simpa using (List.getElem?_eq_some_iff.1 hu).1
    rw [Addr.add_lit, hc j hj]
    simpa [hj] using hu

set_option maxHeartbeats 1600000 in
theorem lent (a : Option Addr) (len cap : Nat) (zs : List Int) (hlen : zs.length ≤ 5000) (w : World) (hI : Ints w.heap.size w (.slice a len cap) zs) :
    Calls Try.prog 14 #[.slice a len cap] w fun e w' => ∃ g C, e = .returned (.slice (some ⟨g, 0, none⟩) zs.length C) ∧ zs.length + 12 ≤ C ∧
      w'.ownsRow w.heap.size 3 1 (.slice (some ⟨g, 0, none⟩) (zs.length + 12) C) (zs.length + 12) (mk zs 12) ∧ Below w.heap.size w w' := by
  obtain ⟨hl, hnone, hcs⟩ := hI.cells
  subst hl
  obtain ⟨i0, hi, hz0, hz1, hz2⟩ := info_parts info3
  go_enter Try.func14, Try.ntmps14
  have HN := Lib.hid hnone
  have HC := Lib.hid hcs
  clear hnone hcs hI
  go_wp2_with (first
    | (at_make; refine wpList_make_own _ rfl _ _ 22 rfl w.heap.size 3 i0 (.int .i64 0) 1 Try.underlying22 hi hz0 hz1 .i64 .i64 _ (zs.length + 12) rfl rfl (by omega) (by rw [hz2]; omega) (by unfold maxLen; omega) (Nat.le_refl _) ?_; intro w1 hown1 hgrow1)
    | (at_builtin; refine wpList_append_fits_any _ rfl (.tmp 9) (.tmp 10) 22 rfl w.heap.size 3 i0 1 Try.underlying22 hi hz1 _ 0 (zs.length + 12) [] rfl (by assumption) a zs.length cap (zs.map (Value.int .i64)) rfl (by simp) HN.out ?hc1 (ints_oneCell _ _) (by omega) ?_; rotate_right; intro w2 hown2 hgrow2; simp only [Nat.zero_add, List.nil_append] at hown2))
  case hc1 =>
    intro ad had j u hu
    exact World.grownBy.cell hgrow1 (HC.out ad had j u hu) (by simp)
  · have hb2 : Below w.heap.size w w2 := ((Below.refl _ w).grown hgrow1 (Nat.le_refl _) (by simp)).grown hgrow2 hgrow1.size (fun k e => by cases e; exact Nat.le_refl _)
    have hz : w.heap.size ≤ w2.heap.size := hb2.size
    clear hown1 hgrow1 hgrow2 HC HN
    rw [← mk_zero] at hown2
    go_loopw [3, 4] (fun v i wr => ∃ k : Nat, k ≤ 12 ∧ i = .int .i64 k ∧ v = .slice (some ⟨w.heap.size, 0, none⟩) (zs.length + k) (zs.length + 12) ∧ wr.ownsRow w.heap.size 3 1 (.slice (some ⟨w.heap.size, 0, none⟩) (zs.length + k) (zs.length + 12)) (zs.length + k) (mk zs k) ∧ Below w.heap.size w wr) (fun _ i _ => 12 - (intOf i).toNat)
    case atStart => exact ⟨0, by omega, rfl, rfl, hown2, hb2⟩
    case round =>
      obtain ⟨k, hk, rfl, rfl, hown, hb⟩ := hrel
      by_cases hlt : k < 12
      · go_wp2_with (first
          | (go_at_call 31; refine (mark_any _ _ _).mono ?_; rintro e w' ⟨rfl, rfl⟩)
          | (at_builtin; refine wpList_append_fits _ rfl (.tmp 16) (.tmp 19) 22 rfl w.heap.size 3 i0 1 Try.underlying22 hi hz1 _ (zs.length + k) (zs.length + 12) (mk zs k) rfl (hown.alloc _) ⟨wr.heap.size, 0, none⟩ 1 1 [.int .i64 (mark 1 k)] rfl rfl (cell_one_new _ _ _) (by simp [Value.oneCell']) (by omega) ?_; intro w3 hown3 hgrow3))
        have hb3 : Below w.heap.size w w3 := (hb.alloc hb.size _).grown hgrow3 (by have := hb.size; simp; omega) (fun k e => by cases e; exact Nat.le_refl _)
        go_roundw
        case rel => exact ⟨k + 1, by omega, by go_num, rfl, by rw [mk_succ]; exact hown3, hb3⟩
        case measure => simp [intOf]; omega
      · obtain rfl : k = 12 := by omega
        go_wp2
        go_ret
        exact ⟨_, _, rfl, Nat.le_refl _, hown, hb⟩

end Go.Proofs.Ytcpkbhoocblpjaa
