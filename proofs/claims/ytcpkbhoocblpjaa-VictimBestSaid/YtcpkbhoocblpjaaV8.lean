/- VictimBest walked: what is picked is used, not open, and worth the most. -/
import Derived.Test.YtcpkbhoocblpjaaV7
import Derived.Laws.MakeOwn
namespace Go.Proofs.Ytcpkbhoocblpjaa
open Go.RowKit

theorem rfold_best (zs : List Int) (op : Int) (k : Nat) :
    (rfold zs op k < 0 → ∀ i, i < k → ¬ (1 ≤ zs[i]?.getD 0 ∧ (i : Int) ≠ op)) ∧
    (∀ r : Nat, rfold zs op k = r → 1 ≤ zs[r]?.getD 0 ∧ (r : Int) ≠ op ∧ ∀ i, i < k → 1 ≤ zs[i]?.getD 0 → (i : Int) ≠ op → zs[r]?.getD 0 ≤ zs[i]?.getD 0 ∧ (zs[i]?.getD 0 = zs[r]?.getD 0 → r ≤ i)) := by
  induction k with
  | zero => exact ⟨fun _ i hi => by omega, fun r h => by simp only [rfold] at h; omega⟩
  | succ k ih =>
    obtain ⟨ih1, ih2⟩ := ih
    by_cases h : 1 ≤ zs[k]?.getD 0 ∧ (k : Int) ≠ op ∧ (rfold zs op k < 0 ∨ zs[k]?.getD 0 < zs[(rfold zs op k).toNat]?.getD 0)
    · rw [rf_yes h]
      refine ⟨fun hh => by omega, fun r hr => ?_⟩
      obtain rfl : k = r := by omega
      refine ⟨h.1, h.2.1, fun i hi h1 h2 => ?_⟩
      by_cases hik : i = k
      · subst hik; exact ⟨Int.le_refl _, fun _ => Nat.le_refl _⟩
      · rcases h.2.2 with h3 | h3
        · exact absurd ⟨h1, h2⟩ (ih1 h3 i (by omega))
        · have hlt := rfold_lt zs op k
          by_cases h4 : rfold zs op k < 0
          · exact absurd ⟨h1, h2⟩ (ih1 h4 i (by omega))
          · obtain ⟨q, hq⟩ : ∃ q : Nat, rfold zs op k = q := ⟨(rfold zs op k).toNat, by omega⟩
            have hb := (ih2 q hq).2.2 i (by omega) h1 h2
            rw [hq, Int.toNat_natCast] at h3
            exact ⟨by omega, fun e => by omega⟩
    · rw [rf_no h]
      refine ⟨fun hh i hi hc => ?_, fun r hr => ?_⟩
      · by_cases hik : i = k
        · subst hik; exact h ⟨hc.1, hc.2, .inl hh⟩
        · exact ih1 hh i (by omega) hc
      · obtain ⟨a, b, c⟩ := ih2 r hr
        refine ⟨a, b, fun i hi h1 h2 => ?_⟩
        by_cases hik : i = k
        · subst hik
          have hlt := rfold_lt zs op i
          rw [hr, Int.toNat_natCast] at h
          have : ¬ zs[i]?.getD 0 < zs[r]?.getD 0 := fun h' => h ⟨h1, h2, .inr h'⟩
          exact ⟨by omega, fun _ => by omega⟩
        · exact c i (by omega) h1 h2

/-- The sizes that may be: each number's rest by s + 1. -/
def rests (zs : List Int) (s : Int) : List Int := zs.map fun x => x % (s + 1)
theorem rests_len (zs : List Int) (s : Int) : (rests zs s).length = zs.length := by simp [rests]
theorem rests_at {zs : List Int} {s : Int} {i : Nat} (hi : i < zs.length) : (rests zs s)[i]?.getD 0 = zs[i]?.getD 0 % (s + 1) := by simp [rests, hi]
theorem rests_bd {zs : List Int} {s : Int} (hs : 1 ≤ s) {i : Nat} (hi : i < zs.length) : 0 ≤ (rests zs s)[i]?.getD 0 ∧ (rests zs s)[i]?.getD 0 ≤ s := by
  rw [rests_at hi]
  have h1 := Int.emod_nonneg (zs[i]?.getD 0) (show s + 1 ≠ 0 by omega)
  have h2 := Int.emod_lt_of_pos (zs[i]?.getD 0) (show 0 < s + 1 by omega)
  omega
/-- The list after k rounds of filling. -/
def filled (ls : List Int) (k : Nat) : List Value := (ls.take k).map (Value.int .i64) ++ List.replicate (ls.length - k) (.int .i64 0)
theorem filled_zero (ls : List Int) : filled ls 0 = List.replicate ls.length (.int .i64 0) := by simp [filled]
theorem filled_all (ls : List Int) : filled ls ls.length = ls.map (Value.int .i64) := by simp [filled]
theorem filled_succ {ls : List Int} {k : Nat} (hk : k < ls.length) : (filled ls k).set k (.int .i64 (ls[k]?.getD 0)) = filled ls (k + 1) := by
  unfold filled
  have e : ls.length - k = (ls.length - (k + 1)) + 1 := by omega
  rw [e, List.replicate_succ, List.set_append_right _ _ (by simp; omega)]
  have e2 : k - ((ls.take k).map (Value.int .i64)).length = 0 := by simp; omega
  rw [e2, List.set_cons_zero, List.take_succ_eq_append_getElem hk, List.map_append, List.append_assoc]
  simp only [List.map_cons, List.map_nil, List.cons_append, List.nil_append]
  rw [show ls[k]?.getD 0 = ls[k] by simp [hk]]

theorem worth_le {x y s : Int} (h1 : 1 ≤ y) (h2 : y ≤ x) (h3 : x ≤ s) (h4 : s ≤ 1024) : worth x s ≤ worth y s := by
  rw [← worth_1 (by omega) h3, ← worth_1 h1 (by omega)]
  unfold wrap64; omega
theorem worth_q (u s : Int) (w : World) : Calls Try.prog 18 #[.int .i64 u, .int .i64 s] w fun e w' => e = .returned (.int .i64 (worth u s)) ∧ w' = w :=
  (worth_p u s w).mono fun _ _ h => ⟨h.1, h.2.symm⟩


set_option maxRecDepth 100000 in
set_option maxHeartbeats 3200000 in
theorem best_small (a : Option Addr) (cap : Nat) (zs : List Int) (op sz : Int) (hlen : zs.length ≤ 5000) (w : World) (hI : Ints w.heap.size w (.slice a zs.length cap) zs) :
    Calls Try.prog 6 #[.slice a zs.length cap, .int .i64 op, .int .i64 sz] w fun e w' => e = .returned (.bool true) ∧ Below w.heap.size w w' := by
  have hge : decide (5000 < (zs.length : Int)) = false := by simp; omega
  have hs0 := Int.emod_nonneg sz (show (1024 : Int) ≠ 0 by omega)
  have hs1 := Int.emod_lt_of_pos sz (show (0 : Int) < 1024 by omega)
  obtain ⟨i0, hi, hz0, hz1, hz2⟩ := info_parts info3
  have HI := Lib.hid hI
  clear hI
  go_enter Try.func6, Try.ntmps6
  go_wp2_with fail
  refine (awake_v _).mono ?_
  rintro e w1 ⟨rfl, hb1⟩
  go_wp2_with fail
  refine (kpick sz 1024 (by omega) (by omega) _).mono ?_
  rintro e w' ⟨rfl, rfl⟩
  obtain ⟨s, hse⟩ : ∃ s, s = 1 + sz % 1024 := ⟨_, rfl⟩
  have hsl : 1 ≤ s := by omega
  have hsu : s ≤ 1024 := by omega
  go_wp2_with (at_make; refine wpList_make_full _ rfl _ _ 22 rfl w1.heap.size 3 i0 (.int .i64 0) 1 Try.underlying22 hi hz0 hz1 .i64 .i64 _ _ zs.length rfl rfl rfl rfl (by rw [hz2]; omega) (by unfold maxLen; omega) (Nat.le_refl _) ?_; intro w2 hown2 hgrow2)
  rw [← hse]
  clear hse hs0 hs1
  have hz12 := hb1.size
  have hb2 : Below w.heap.size w w2 := hb1.grown hgrow2 hz12 (by simp)
  have hlt2 := (hown2.lt w1.heap.size rfl).2
  have hown2' : w2.ownsRow w1.heap.size 3 1 (.slice (some ⟨w1.heap.size, 0, none⟩) zs.length zs.length) zs.length (filled (rests zs s) 0) := by
    rw [filled_zero, rests_len]
    have := toList_madeCells_one (.int .i64 0) (zs.length * 1)
    rw [Nat.mul_one] at this
    rw [← this]
    simpa [Value.cells] using hown2
  clear hown2 hgrow2 hb1
  obtain ⟨g, hg⟩ : ∃ g, g = w1.heap.size := ⟨_, rfl⟩
  rw [← hg] at hown2' hlt2 hz12 ⊢
  clear hg
  go_loopw [8] (fun i wr => ∃ k : Nat, k ≤ zs.length ∧ i = .int .i64 k ∧ wr.ownsRow g 3 1 (.slice (some ⟨g, 0, none⟩) zs.length zs.length) zs.length (filled (rests zs s) k) ∧ Below w.heap.size w wr) (fun i _ => zs.length - (intOf i).toNat)
  case atStart => exact ⟨0, Nat.zero_le _, rfl, hown2', hb2⟩
  case round =>
    clear hown2' hb2
    obtain ⟨k, hk, rfl, hown, hb⟩ := hrel
    by_cases hlt : k < zs.length
    · have hkb : decide (k < zs.length) = true := by simpa using hlt
      rcases HI.out with ⟨rfl, _⟩ | ⟨b, off, cap', hsv, hbb, hc⟩
      · simp at hlt
      · cases hsv
        have hcx : wr.cell? ⟨b, off + k, none⟩ = some (.int .i64 (zs[k]?.getD 0)) := (hb.cell (p := ⟨b, off + k, none⟩) hbb).trans (hc k hlt)
        have hcg : wr.cell? ⟨g, k, none⟩ = (filled (rests zs s) k)[k]? := hown.cellAt k (by omega)
        obtain ⟨v, hv⟩ : ∃ v, wr.cell? ⟨g, k, none⟩ = some v := by
          rw [hcg]
          have : k < (filled (rests zs s) k).length := by simp [filled, rests_len]; omega
          exact ⟨_, List.getElem?_eq_getElem this⟩
        have hf := hown.frozenAt k
        have hst := (hown.stored k (.int .i64 (zs[k]?.getD 0 % (s + 1)))).1
        rw [show zs[k]?.getD 0 % (s + 1) = (rests zs s)[k]?.getD 0 from (rests_at hlt).symm, filled_succ (by rw [rests_len]; exact hlt), rests_at hlt] at hst
        have HS := Lib.hid hst
        clear hst hc hcg
        generalize zs[k]?.getD 0 = x at *
        go_wp2_with (go_at_call 20; refine (kpick x (s + 1) (by omega) (by omega) _).mono ?_; rintro e w' ⟨rfl, rfl⟩)
        go_roundw
        case rel => exact ⟨k + 1, by omega, by go_num, HS.out, hb.setCell (p := ⟨g, k, none⟩) hz12 _⟩
        case measure => simp [intOf]; omega
    · obtain rfl : k = zs.length := by omega
      have hkb : decide (zs.length < zs.length) = false := by simp
      have hrl := rests_len zs s
      have hcell : ∀ j, j < zs.length → wr.cell? ⟨g, j, none⟩ = some (.int .i64 ((rests zs s)[j]?.getD 0)) := fun j hj => by
        rw [hown.cellAt j (by omega)]
        rw [show filled (rests zs s) zs.length = (rests zs s).map (Value.int .i64) by rw [← hrl]; exact filled_all _]
        simp [hrl, hj]
      have hlg := (hown.lt g rfl).2
      have hIl : Ints wr.heap.size wr (.slice (some ⟨g, 0, none⟩) zs.length zs.length) (rests zs s) := by
        refine .inr ⟨g, 0, zs.length, by rw [hrl], hlg, fun j hj => ?_⟩
        rw [Nat.zero_add]; exact hcell j (by omega)
      have HC := Lib.hid hcell
      clear hcell hown hrl
      go_wp2_with fail
      refine (pick_p _ _ _ op (rests zs s) (by rw [rests_len]; omega) _ hIl).mono ?_
      rintro e w3 ⟨rfl, hb3⟩
      have hB3 : Below w.heap.size w w3 := hb.trans (hb3.mono hb.size)
      have HC3 : Hid (∀ j, j < zs.length → w3.cell? ⟨g, j, none⟩ = some (.int .i64 ((rests zs s)[j]?.getD 0))) := fun j hj => (hb3.cell (p := ⟨g, j, none⟩) hlg).trans (HC.out j hj)
      clear hb3 hb hIl HC
      have hbest := rfold_best (rests zs s) op (rests zs s).length
      have hrl2 := rfold_lt (rests zs s) op (rests zs s).length
      rw [rests_len] at hbest hrl2
      rw [pick_rfold, rests_len]
      have hrd : ∀ i : Nat, i < zs.length → 0 ≤ (rests zs s)[i]?.getD 0 ∧ (rests zs s)[i]?.getD 0 ≤ s := fun i hi => rests_bd hsl hi
      generalize rests zs s = ls at *
      generalize hr : rfold ls op zs.length = r at *
      clear hr
      have HR := Lib.hid hrd
      clear hrd
      by_cases hneg : r < 0
      · obtain rfl : r = -1 := by omega
        have HB := Lib.hid (hbest.1 hneg)
        clear hbest hneg hrl2
        have hk1 : decide ((zs.length : Int) ≤ -1) = false := by simp; omega
        go_wp2_with fail
        go_loopw [10] (fun i wr => ∃ k : Nat, k ≤ zs.length ∧ i = .int .i64 k ∧ Drawn w3 wr) (fun i _ => zs.length - (intOf i).toNat)
        case atStart => exact ⟨0, Nat.zero_le _, rfl, Drawn.refl _⟩
        case round =>
          clear hk1
          obtain ⟨k, hk, rfl, hD⟩ := hrel
          by_cases hlt : k < zs.length
          · have hck := (hD.cell _).trans (HC3.out k hlt)
            have hno := HB.out k hlt
            have hb0 := (HR.out k hlt).1
            generalize ls[k]?.getD 0 = x at *
            have hkb : decide (k < zs.length) = true := by simpa using hlt
            by_cases hx : 0 < x
            · have hko : ((k : Int) != op) = false := by simp; omega
              clear hno
              go_wp2_with fail
              go_quiet (fail)
              go_wp2_with fail
              go_roundw
              case rel => exact ⟨k + 1, by omega, by go_num, hD.drewN _⟩
              case measure => simp [intOf]; omega
            · clear hno
              have hxd : decide (0 < x) = false := by simpa using hx
              go_wp2_with fail
              go_quiet (fail)
              go_wp2_with fail
              go_roundw
              case rel => exact ⟨k + 1, by omega, by go_num, hD.drewN _⟩
              case measure => simp [intOf]; omega
          · obtain rfl : k = zs.length := by omega
            go_wp2_with fail
            go_ret
            exact ⟨rfl, hB3.trans (hD.below _)⟩
      · obtain ⟨q, rfl⟩ : ∃ q : Nat, r = q := ⟨r.toNat, by omega⟩
        have hql : q < zs.length := by omega
        have hq := hbest.2 q rfl
        have hcq := HC3.out q hql
        have hbq := HR.out q hql
        clear hbest
        obtain ⟨hq1, hq2, hq3⟩ := hq
        have HQ := Lib.hid hq3
        clear hq3
        have hqo : ((q : Int) == op) = false := by simp [hq2]
        have hk1 : decide (zs.length ≤ q) = false := by simp; omega
        have hk2 : decide ((0 : Int) ≤ (q : Int)) = true := by simp
        generalize hy : ls[q]?.getD 0 = y at *
        have HY := Lib.hid hy
        clear hy
        have hy1 : decide (y < 1) = false := by simp; omega
        go_wp2_with fail
        go_loopw [10] (fun i wr => ∃ k : Nat, k ≤ zs.length ∧ i = .int .i64 k ∧ Drawn w3 wr) (fun i _ => zs.length - (intOf i).toNat)
        case atStart => exact ⟨0, Nat.zero_le _, rfl, Drawn.refl _⟩
        case round =>
          obtain ⟨k, hk, rfl, hD⟩ := hrel
          by_cases hlt : k < zs.length
          · have hck := (hD.cell _).trans (HC3.out k hlt)
            have hcq' := (hD.cell _).trans hcq
            have hbk := HR.out k hlt
            have hkb : decide (k < zs.length) = true := by simpa using hlt
            have hyes := HQ.out k hlt
            generalize ls[k]?.getD 0 = x at *
            by_cases hx : 0 < x
            · by_cases hko : (k : Int) = op
              · have hko' : ((k : Int) != op) = false := by simp [hko]
                clear hyes hko
                go_wp2_with fail
                go_quiet (fail)
                go_wp2_with fail
                go_roundw
                case rel => exact ⟨k + 1, by omega, by go_num, hD.drewN _⟩
                case measure => simp [intOf]; omega
              · have hko' : ((k : Int) != op) = true := by simpa using hko
                have hyx := hyes (by omega) hko
                clear hyes hko
                have hw : decide (worth y s < worth x s) = false := by
                  have := worth_le (by omega) hyx.1 hbk.2 hsu
                  simp; omega
                have hq0 : decide ((q : Int) < 0) = false := by simp
                have hqz : (q : Int) < (zs.length : Int) := by omega
                have hkz : (k : Int) < (zs.length : Int) := by omega
                have h3 : decide (0 < x) = true := by simpa using hx
                by_cases hxy : x = y
                · have hxy' : (x == y) = true := by simpa using hxy
                  have hkq : decide (k < q) = false := by have := hyx.2 hxy; simp; omega
                  clear hyx hxy
                  go_wp2_with fail
                  go_quiet ((go_at_call 18; exact Calls.quiet_of_same (worth_q _ _ _)))
                  go_wp2_with fail
                  go_roundw
                  case rel => exact ⟨k + 1, by omega, by go_num, hD.drewN _⟩
                  case measure => simp [intOf]; omega
                · have hxy' : (x == y) = false := by simpa using hxy
                  clear hyx hxy
                  go_wp2_with fail
                  go_quiet ((go_at_call 18; exact Calls.quiet_of_same (worth_q _ _ _)))
                  go_wp2_with fail
                  go_roundw
                  case rel => exact ⟨k + 1, by omega, by go_num, hD.drewN _⟩
                  case measure => simp [intOf]; omega
            · clear hyes
              have hxd : decide (0 < x) = false := by simpa using hx
              go_wp2_with fail
              go_quiet (fail)
              go_wp2_with fail
              go_roundw
              case rel => exact ⟨k + 1, by omega, by go_num, hD.drewN _⟩
              case measure => simp [intOf]; omega
          · obtain rfl : k = zs.length := by omega
            go_wp2_with fail
            go_ret
            exact ⟨rfl, hB3.trans (hD.below _)⟩

theorem best_big (a : Option Addr) (len cap : Nat) (op sz : Int) (hlen : 5000 < len) (w : World) :
    Calls Try.prog 6 #[.slice a len cap, .int .i64 op, .int .i64 sz] w fun e w' => e = .returned (.bool true) ∧ Below w.heap.size w w' := by
  have hge : decide (5000 < (len : Int)) = true := by simp; omega
  go_enter Try.func6, Try.ntmps6
  go_wp2_with fail
  refine (awake_v _).mono ?_
  rintro e w5 ⟨rfl, hb5⟩
  go_wp2_with fail
  go_ret
  exact ⟨rfl, hb5⟩

theorem best_walk (w : World) (a : Option Addr) (len cap : Nat) (zs : List Int) (h : IsRow .i64 w a len cap zs) (op : Int) (_hw : (Lit.int .i64 op).wf = true) (sz : Int) (_hs : (Lit.int .i64 sz).wf = true) :
    Calls Try.prog 6 #[.slice a len cap, .int .i64 op, .int .i64 sz] w fun e w' => e = .returned (.bool true) ∧ Below w.heap.size w w' := by
  obtain ⟨h1, h2⟩ := h.ints
  by_cases hl : len ≤ 5000
  · have := best_small a cap (zs.take len) op sz (by omega) w (by rw [h1]; exact h2)
    rwa [h1] at this
  · exact best_big a len cap op sz (by omega) w

end Go.Proofs.Ytcpkbhoocblpjaa
