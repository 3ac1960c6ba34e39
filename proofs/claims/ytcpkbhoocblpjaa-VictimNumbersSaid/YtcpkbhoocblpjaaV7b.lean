/- VictimNumbers walked: the closed statement, by the contracts of the two laws that it calls. -/
import Derived.Test.YtcpkbhoocblpjaaV7
import Derived.Deep.RegionHeld3
namespace Go.Proofs.Ytcpkbhoocblpjaa
open Go.RowKit

def numsL : List Int := [-9223372036854775808, -1, 0, 1, 2, 9223372036854775807]
def NumsAt (b : Nat) (w : World) : Prop := b < w.heap.size ∧ ∀ j, j < 6 → w.cell? ⟨b, j, none⟩ = some (.int .i64 (numsL.getD j 0))
theorem NumsAt.below {b : Nat} {w w' : World} (h : NumsAt b w) (hb : Below w.heap.size w w') : NumsAt b w' :=
  ⟨Nat.lt_of_lt_of_le h.1 hb.size, fun j hj => (hb.cell (p := ⟨b, j, none⟩) h.1).trans (h.2 j hj)⟩
theorem NumsAt.alloc {b : Nat} {w : World} (h : NumsAt b w) (o : Obj) : NumsAt b (w.alloc o) := h.below ((Below.refl _ w).alloc (Nat.le_refl _) o)
theorem NumsAt.drew {b : Nat} {w : World} (h : NumsAt b w) : NumsAt b w.drew := h
/-- What a round's two reads see, and what it keeps. -/
def Sn (w : World) (b i j : Nat) (x y : Int) (w' : World) : Prop := (w'.cell? ⟨b, i, none⟩ = some (.int .i64 x) ∧ w'.cell? ⟨b, j, none⟩ = some (.int .i64 y)) ∧ NumsAt b w' ∧ Below w.heap.size w w'
theorem Sn.below {w : World} {b i j : Nat} {x y : Int} {w' w'' : World} (h : Sn w b i j x y w') (hb : Below w'.heap.size w' w'') : Sn w b i j x y w'' :=
  ⟨⟨(hb.cell (p := ⟨b, i, none⟩) h.2.1.1).trans h.1.1, (hb.cell (p := ⟨b, j, none⟩) h.2.1.1).trans h.1.2⟩, h.2.1.below hb, h.2.2.trans (hb.mono h.2.2.size)⟩
theorem Sn.alloc {w : World} {b i j : Nat} {x y : Int} {w' : World} (h : Sn w b i j x y w') (o : Obj) : Sn w b i j x y (w'.alloc o) := h.below ((Below.refl _ w').alloc (Nat.le_refl _) o)
theorem Sn.drew {w : World} {b i j : Nat} {x y : Int} {w' : World} (h : Sn w b i j x y w') : Sn w b i j x y w'.drew := ⟨h.1, h.2.1, h.2.2.drew⟩
theorem numsAt_new (w : World) : NumsAt w.heap.size (w.alloc (.cells #[.int .i64 (-9223372036854775808), .int .i64 (-1), .int .i64 0, .int .i64 1, .int .i64 2, .int .i64 9223372036854775807] 3)) := by
  refine ⟨by simp, fun j hj => ?_⟩
  have h := heap_alloc_new w (.cells #[.int .i64 (-9223372036854775808), .int .i64 (-1), .int .i64 0, .int .i64 1, .int .i64 2, .int .i64 9223372036854775807] 3)
  unfold World.cell?
  rw [h]
  match j, hj with
  | 0, _ | 1, _ | 2, _ | 3, _ | 4, _ | 5, _ => rfl

set_option maxRecDepth 100000 in
set_option maxHeartbeats 3200000 in
theorem numbers_walk (w : World) : Calls Try.prog 5 #[] w fun e w' => e = .returned (.bool true) ∧ Below w.heap.size w w' := by
  go_enter Try.func5, Try.ntmps5
  go_wp2_with fail
  go_loopw [1] (fun i wr => ∃ k : Nat, k ≤ 125 ∧ i = .int .i64 k ∧ Below w.heap.size w wr) (fun i _ => 125 - (intOf i).toNat)
  case atStart => exact ⟨0, by omega, rfl, Below.refl _ _⟩
  case round =>
    obtain ⟨k, hk, rfl, hb⟩ := hrel
    by_cases hlt : k < 125
    · have hkb : decide ((k : Int) < 125) = true := by simp; omega
      go_wp2_with fail
      obtain ⟨wo, rfl⟩ : ∃ wo : World, wo = wr := ⟨_, rfl⟩
      go_loopw [2] (fun i wr => ∃ j : Nat, j ≤ 7 ∧ i = .int .i64 ((j : Int) - 2) ∧ Below w.heap.size w wr) (fun i _ => (5 - (intOf i)).toNat)
      case atStart => exact ⟨0, by omega, rfl, hb⟩
      case round =>
        clear hb
        obtain ⟨j, hj, rfl, hb⟩ := hrel
        by_cases hjt : j < 7
        · go_wp2_with fail
          refine (picks_any _ _ _ _ [(k : Int) % 5 - 1, (k : Int) / 5 % 5 - 1, (k : Int) / 25 - 1] rfl _ (Ints.newBlock wr _ _ _ rfl (by simp) 3 3 rfl)).mono ?_
          rintro e w1 ⟨rfl, hb1⟩
          simp only [World.size_alloc] at hb1
          have hbn : Below w.heap.size w w1 := (hb.alloc hb.size _).trans (hb1.mono (by have := hb.size; omega))
          clear hb1 hb
          go_wp2_with fail
          go_roundw
          case rel => exact ⟨j + 1, by omega, by go_num, hbn⟩
          case measure => simp [intOf]; omega
        · obtain rfl : j = 7 := by omega
          go_wp2_with fail
          go_roundw
          case rel => exact ⟨k + 1, by omega, by go_num, hb⟩
          case measure => simp [intOf]; omega
    · obtain rfl : k = 125 := by omega
      go_wp2_with fail
      obtain ⟨W0, hW0, hNs, hB0⟩ : ∃ W0, wr.alloc (.cells #[.int .i64 (-9223372036854775808), .int .i64 (-1), .int .i64 0, .int .i64 1, .int .i64 2, .int .i64 9223372036854775807] 3) = W0 ∧ NumsAt wr.heap.size W0 ∧ Below w.heap.size w W0 :=
        ⟨_, rfl, numsAt_new wr, hb.alloc hb.size _⟩
      rw [hW0]
      have hbn := hb.size
      clear hW0 hb
      obtain ⟨b, hbe⟩ : ∃ b, b = wr.heap.size := ⟨_, rfl⟩
      rw [← hbe] at hNs hbn ⊢
      clear hbe
      go_loopw [4] (fun i wr => ∃ k : Nat, k ≤ 6 ∧ i = .int .i64 k ∧ NumsAt b wr ∧ Below w.heap.size w wr) (fun i _ => 6 - (intOf i).toNat)
      case atStart => exact ⟨0, by omega, rfl, hNs, hB0⟩
      case round =>
        clear hNs hB0
        obtain ⟨i, hi, rfl, hNs, hB⟩ := hrel
        by_cases hit : i < 6
        · have hib : decide ((i : Int) < 6) = true := by simp; omega
          go_wp2_with fail
          obtain ⟨wo, rfl⟩ : ∃ wo : World, wo = wr := ⟨_, rfl⟩
          go_loopw [5] (fun i wr => ∃ k : Nat, k ≤ 6 ∧ i = .int .i64 k ∧ NumsAt b wr ∧ Below w.heap.size w wr) (fun i _ => 6 - (intOf i).toNat)
          case atStart => exact ⟨0, by omega, rfl, hNs, hB⟩
          case round =>
            clear hNs hB
            obtain ⟨j, hj, rfl, hNs, hB⟩ := hrel
            by_cases hjt : j < 6
            · have c1 := hNs.2 i hit
              have c2 := hNs.2 j hjt
              have hbs := hNs.1
              have hit' : (i : Int) < 6 := by omega
              have hjt' : (j : Int) < 6 := by omega
              have HN := Lib.hid hNs
              clear hNs
              generalize numsL.getD i 0 = x at *
              generalize numsL.getD j 0 = y at *
              go_wp2_with fail
              have hS : Sn w b i j x y wr := ⟨⟨c1, c2⟩, HN.out, hB⟩
              go_region_held3 (fun w' => w'.cell? ⟨b, i, none⟩ = some (.int .i64 x) ∧ w'.cell? ⟨b, j, none⟩ = some (.int .i64 y) ∧ Sn w b i j x y w')
                (first | exact ⟨Sn.drew hS |>.1.1, Sn.drew hS |>.1.2, Sn.drew hS⟩ | exact ⟨hS1.1.1, hS1.1.2, hS1⟩ | exact ⟨hS2.1.1, hS2.1.2, hS2⟩ | exact ⟨(Sn.alloc hS1 _).1.1, (Sn.alloc hS1 _).1.2, Sn.alloc hS1 _⟩ | go_keep)
                (first
                  | (go_at_call 4; refine (worth_any _ _ _).mono ?_; rintro e w1 ⟨rfl, hbw⟩; have hS1 := Sn.below (Sn.drew hS) hbw)
                  | (go_at_call 3; refine (picks_any _ _ _ _ [x, y] rfl _ (Ints.newBlock w1 _ _ _ rfl (by simp) 2 2 rfl)).mono ?_; rintro e w2 ⟨rfl, hbw2⟩; have hS2 := Sn.below (Sn.alloc hS1 _) hbw2))
              clear hS1 hS HN c1 c2 hB
              go_wp2_with fail
              go_roundw
              case rel => (repeat apply Exists.intro); exact ⟨⟨j + 1, by omega, by go_num, hS2.2.1, hS2.2.2⟩, rfl⟩
              case measure => simp [intOf]; omega
            · obtain rfl : j = 6 := by omega
              go_wp2_with fail
              go_roundw
              case rel => exact ⟨i + 1, by omega, by go_num, hNs, hB⟩
              case measure => simp [intOf]; omega
        · obtain rfl : i = 6 := by omega
          go_wp2_with fail
          refine (picks_any _ _ _ _ [] rfl _ (.inl ⟨rfl, _, _, rfl, fun _ => rfl⟩)).mono ?_
          rintro e w1 ⟨rfl, hb1⟩
          have hB1 := hB.trans (hb1.mono hB.size)
          clear hb1 hB
          go_wp2_with fail
          refine (awake_v _).mono ?_
          rintro e w2 ⟨rfl, hb2⟩
          go_wp2_with fail
          go_ret
          exact ⟨rfl, hB1.trans (hb2.mono hB1.size)⟩

end Go.Proofs.Ytcpkbhoocblpjaa
