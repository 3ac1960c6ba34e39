/- The chapter's examples of victim are met. -/
import Derived.Test.YtcpkbhoocblpjaaV4
namespace Go.Proofs.Ytcpkbhoocblpjaa
open Go.RowKit

/-- A new block of numbers reads as them. -/
theorem Ints.newBlock (w : World) (zs : List Int) (n₀ : Nat) (cs : Array Value) (hcs : cs = (zs.map (Value.int .i64)).toArray) (hn : w.heap.size < n₀) (len cap : Nat) (hl : len = zs.length) :
    Ints n₀ (w.alloc (.cells cs 3)) (.slice (some ⟨w.heap.size, 0, none⟩) len cap) zs := by
  subst hl hcs
  refine .inr ⟨w.heap.size, 0, cap, rfl, hn, fun j hj => ?_⟩
  have h := heap_alloc_new w (.cells (zs.map (Value.int .i64)).toArray 3)
  unfold World.cell?
  rw [h]
  simp [hj]

set_option maxHeartbeats 1600000 in
theorem awake_v (w : World) : Calls Try.prog 13 #[] w fun e w' => e = .returned (.bool true) ∧ Below w.heap.size w w' := by
  have p1 : pick [0, 5, 3, 3] 2 = 3 := by decide
  have p2 : pick [0, 5, 3, 3] (-1) = 2 := by decide
  have p3 : pick [0, 0] 0 = -1 := by decide
  have q1 : worth 3 16 = 13 := by decide +kernel
  have q2 : worth 0 16 = 0 := by decide +kernel
  have q3 : worth 17 16 = 0 := by decide +kernel
  go_enter Try.func13, Try.ntmps13
  go_wp2_with fail
  refine (pick_p _ _ _ 2 [0, 5, 3, 3] (by decide) _ (Ints.newBlock w [0, 5, 3, 3] _ _ rfl (by simp) 4 4 rfl)).mono ?_
  rw [p1]
  rintro e w1 ⟨rfl, hb1⟩
  simp only [World.size_alloc] at hb1
  have hz1 : w.heap.size + 1 ≤ w1.heap.size := by have := hb1.size; simp at this; omega
  have hB1 : Below w.heap.size w w1 := ((Below.refl _ w).alloc (Nat.le_refl _) _).trans (hb1.mono (by omega))
  have hI1 : Ints w1.heap.size w1 (.slice (some ⟨w.heap.size, 0, none⟩) 4 4) [0, 5, 3, 3] := ((Ints.newBlock w [0, 5, 3, 3] (w.heap.size + 1) _ rfl (by omega) 4 4 rfl).below hb1).mono hz1
  clear hb1
  go_wp2_with fail
  refine (pick_p _ _ _ (-1) [0, 5, 3, 3] (by decide) _ hI1).mono ?_
  rw [p2]
  rintro e w2 ⟨rfl, hb2⟩
  have hB2 : Below w.heap.size w w2 := hB1.trans (hb2.mono (by omega))
  clear hb2 hI1 hB1 hz1
  go_wp2_with fail
  refine (pick_p _ _ _ 0 [0, 0] (by decide) _ (Ints.newBlock w2 [0, 0] _ _ rfl (by simp) 2 2 rfl)).mono ?_
  rw [p3]
  rintro e w3 ⟨rfl, hb3⟩
  simp only [World.size_alloc] at hb3
  have hB3 : Below w.heap.size w w3 := (hB2.alloc hB2.size _).trans (hb3.mono (by have := hB2.size; omega))
  clear hb3 hB2
  go_wp2_with fail
  refine (worth_p _ _ _).mono ?_
  rw [q1]
  rintro e w' ⟨rfl, rfl⟩
  go_wp2_with fail
  refine (worth_p _ _ _).mono ?_
  rw [q2]
  rintro e w' ⟨rfl, rfl⟩
  go_wp2_with fail
  refine (worth_p _ _ _).mono ?_
  rw [q3]
  rintro e w' ⟨rfl, rfl⟩
  go_wp2_with fail
  go_ret
  exact ⟨rfl, hB3⟩

end Go.Proofs.Ytcpkbhoocblpjaa
