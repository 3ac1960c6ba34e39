/- The laws of victim walked: each returns true and leaves what was there as it was. -/
import Derived.Test.YtcpkbhoocblpjaaV5
namespace Go.Proofs.Ytcpkbhoocblpjaa
open Go.RowKit

/-- A slice of integers that came in: it is nil; or it leads to a row of 'cap' cells, the numbers 'zs' (the first 'len' are its elements). -/
def IsRow (k : IntKind) (w : World) (a : Option Addr) (len cap : Nat) (zs : List Int) : Prop :=
  (a = none ∧ len = 0 ∧ cap = 0 ∧ zs = []) ∨
  ∃ x, a = some x ∧ len ≤ cap ∧ cap ≤ maxLen ∧ zs.length = cap ∧ (∀ i, i < zs.length → w.cell? (x.add i) = some (.int k (zs.getD i 0))) ∧ ∀ n ∈ zs, (Lit.int k n).wf = true

theorem IsRow.ints {w : World} {a : Option Addr} {len cap : Nat} {zs : List Int} (h : IsRow .i64 w a len cap zs) : (zs.take len).length = len ∧ Ints w.heap.size w (.slice a len cap) (zs.take len) := by
  rcases h with ⟨rfl, rfl, rfl, rfl⟩ | ⟨⟨b, off, spot⟩, rfl, hl, hm, hz, hc, hw⟩
  · exact ⟨rfl, .inl ⟨rfl, none, 0, rfl, fun _ => rfl⟩⟩
  · have hlen : (zs.take len).length = len := by simp; omega
    refine ⟨hlen, ?_⟩
    by_cases h0 : len = 0
    · subst h0
      exact .inl ⟨by simp, _, _, rfl, fun h => by cases h⟩
    · have h0c := hc 0 (by omega)
      have hspot : spot = none := by simpa [Addr.add] using World.cell?_spot h0c
      subst hspot
      refine .inr ⟨b, off, cap, by rw [hlen], ?_, ?_⟩
      · have := block_lt_of_cell h0c
        simpa [Addr.add] using this
      · intro j hj
        have := hc j (by omega)
        rw [Addr.add_lit] at this
        rw [this]
        have hjl : j < len := by omega
        have hjz : j < zs.length := by omega
        simp [hjl, hjz]

/-- VictimPicks, within its bound on the row's length. -/
theorem picks_small (a : Option Addr) (len cap : Nat) (op : Int) (zs : List Int) (hlen : len ≤ 5000) (hl : zs.length = len) (w : World) (hI : Ints w.heap.size w (.slice a len cap) zs) :
    Calls Try.prog 3 #[.slice a len cap, .int .i64 op] w fun e w' => e = .returned (.bool true) ∧ Below w.heap.size w w' := by
  subst hl
  have hge : decide (5000 < (zs.length : Int)) = false := by simp; omega
  go_enter Try.func3, Try.ntmps3
  go_wp2_with fail
  refine (lent _ _ _ zs hlen _ hI).mono ?_
  rintro e w1 ⟨g, C, rfl, hC, hown, hb1⟩
  have hg := hown.lt g rfl
  have hcell : ∀ j, j < zs.length + 12 → w1.cell? ⟨g, j, none⟩ = (mk zs 12)[j]? := fun j hj => hown.cellAt j (by omega)
  have hL : Ints w1.heap.size w1 (.slice (some ⟨g, 0, none⟩) zs.length C) zs := by
    refine .inr ⟨g, 0, C, rfl, hg.2, fun j hj => ?_⟩
    rw [Nat.zero_add, hcell j (by omega), mk_at_lo hj]
  have hI1 : Ints w.heap.size w1 (.slice a zs.length cap) zs := hI.below hb1
  have HI := Lib.hid hI
  have HB := Lib.hid hb1
  have HC := Lib.hid hcell
  have hz := hb1.size
  clear hown hcell hb1 hI
  go_wp2_with fail
  refine (pick_p _ _ _ op zs (by omega) _ hL).mono ?_
  rintro e w2 ⟨rfl, hb2⟩
  have hcell2 : ∀ j, j < zs.length + 12 → w2.cell? ⟨g, j, none⟩ = (mk zs 12)[j]? := fun j hj => (hb2.cell (p := ⟨g, j, none⟩) hg.2).trans (HC.out j hj)
  have hI2 : Ints w2.heap.size w2 (.slice a zs.length cap) zs := (hI1.below (hb2.mono hz)).mono (by have := hb2.size; omega)
  have HB2 := Lib.hid (HB.out.trans (hb2.mono hz))
  have HC2 := Lib.hid hcell2
  clear hb2 hcell2
  go_wp2_with fail
  refine (pick_r _ _ _ op zs (by omega) _ hI2).mono ?_
  rintro e w3 ⟨rfl, n, rfl⟩
  go_wp2_with fail
  refine (kept w2.heap.size g C _ _ _ zs hlen _ (hI2.drawn ⟨n, rfl⟩) hC (fun j hj => (Drawn.cell ⟨n, rfl⟩ _).trans (HC2.out j hj))).mono ?_
  rintro e w4 ⟨rfl, hD⟩
  go_wp2_with fail
  refine (awake_v _).mono ?_
  rintro e w5 ⟨rfl, hb5⟩
  go_wp2_with fail
  go_ret
  refine ⟨rfl, ?_⟩
  have hD2 : Drawn w2 w4 := Drawn.trans ⟨n, rfl⟩ hD
  have hs : w4.heap.size = w2.heap.size := by rw [hD2.heap]
  exact (HB2.out.trans (hD2.below _)).trans (hb5.mono (by rw [hs]; exact HB2.out.size))

theorem picks_big (a : Option Addr) (len cap : Nat) (op : Int) (hlen : 5000 < len) (w : World) :
    Calls Try.prog 3 #[.slice a len cap, .int .i64 op] w fun e w' => e = .returned (.bool true) ∧ Below w.heap.size w w' := by
  have hge : decide (5000 < (len : Int)) = true := by simp; omega
  go_enter Try.func3, Try.ntmps3
  go_wp2_with fail
  refine (awake_v _).mono ?_
  rintro e w5 ⟨rfl, hb5⟩
  go_wp2_with fail
  go_ret
  exact ⟨rfl, hb5⟩

theorem picks_any (a : Option Addr) (len cap : Nat) (op : Int) (zs : List Int) (hl : zs.length = len) (w : World) (hI : Ints w.heap.size w (.slice a len cap) zs) :
    Calls Try.prog 3 #[.slice a len cap, .int .i64 op] w fun e w' => e = .returned (.bool true) ∧ Below w.heap.size w w' := by
  by_cases h : len ≤ 5000
  · exact picks_small a len cap op zs h hl w hI
  · exact picks_big a len cap op (by omega) w


theorem worth_any (u s : Int) (w : World) : Calls Try.prog 4 #[.int .i64 u, .int .i64 s] w fun e w' => e = .returned (.bool true) ∧ Below w.heap.size w w' := by
  go_enter Try.func4, Try.ntmps4
  go_wp2_with fail
  refine (worth_p _ _ _).mono ?_
  rintro e w' ⟨rfl, rfl⟩
  go_wp2_with fail
  refine (worth_r _ _ _).mono ?_
  rintro e w' ⟨rfl, rfl⟩
  go_wp2_with fail
  refine (awake_v _).mono ?_
  rintro e w5 ⟨rfl, hb5⟩
  go_wp2_with fail
  go_ret
  exact ⟨rfl, hb5⟩

end Go.Proofs.Ytcpkbhoocblpjaa
