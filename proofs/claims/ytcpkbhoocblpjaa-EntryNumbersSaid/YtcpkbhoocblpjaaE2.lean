/- Keys compared: entry.Compare and the reference's. -/
import Derived.Test.YtcpkbhoocblpjaaE1
namespace Go.Proofs.Ytcpkbhoocblpjaa.E
set_option linter.all false
open Go Go.RowKit

theorem cmp_prefix : ∀ (k : Nat) (a b : List Int), a.take k = b.take k → cmpL a b = cmpL (a.drop k) (b.drop k)
  | 0, _, _, _ => rfl
  | k + 1, [], [], _ => by simp
  | k + 1, [], _ :: _, h => by simp at h
  | k + 1, _ :: _, [], h => by simp at h
  | k + 1, x :: a, y :: b, h => by
    simp only [List.take_succ_cons, List.cons.injEq] at h
    obtain ⟨rfl, h⟩ := h
    rw [List.drop_succ_cons, List.drop_succ_cons, ← cmp_prefix k a b h, cmpL, if_neg (Int.lt_irrefl x), if_neg (Int.lt_irrefl x)]
theorem drop_at (l : List Int) (k : Nat) (h : k < l.length) : l.drop k = l[k]?.getD 0 :: l.drop (k + 1) := by
  rw [List.drop_eq_getElem_cons h]; simp [h]
theorem cmp_lt (k : Nat) (a b : List Int) (h : a.take k = b.take k) (ha : k < a.length) (hb : k < b.length) (hlt : a[k]?.getD 0 < b[k]?.getD 0) : (-1 : Int) = cmpL a b := by
  rw [cmp_prefix k a b h, drop_at a k ha, drop_at b k hb, cmpL, if_pos hlt]
theorem cmp_gt (k : Nat) (a b : List Int) (h : a.take k = b.take k) (ha : k < a.length) (hb : k < b.length) (hlt : b[k]?.getD 0 < a[k]?.getD 0) : (1 : Int) = cmpL a b := by
  rw [cmp_prefix k a b h, drop_at a k ha, drop_at b k hb, cmpL, if_neg (by omega), if_pos hlt]
theorem take_next (k : Nat) (a b : List Int) (h : a.take k = b.take k) (ha : k < a.length) (hb : k < b.length) (he : a[k]?.getD 0 = b[k]?.getD 0) : a.take (k + 1) = b.take (k + 1) := by
  rw [List.take_succ_eq_append_getElem ha, List.take_succ_eq_append_getElem hb, h]
  simp only [List.getElem?_eq_getElem ha, List.getElem?_eq_getElem hb, Option.getD_some] at he
  rw [he]
theorem cmp_self : ∀ (a : List Int), cmpL a a = 0
  | [] => rfl
  | x :: a => by rw [cmpL, if_neg (Int.lt_irrefl x), if_neg (Int.lt_irrefl x), cmp_self a]

set_option maxHeartbeats 400000 in
theorem compare_p (xs ys : List Int) (w : World) (hx : xs.length = 40) (hy : ys.length = 40) (bx : AllB xs) (bY : AllB ys) :
    Calls Try.prog 26 #[.agg (U xs).toArray, .agg (U ys).toArray] w fun e w' => e = .returned (.int .i64 (cmpL xs ys)) ∧ Below w.heap.size w w' := by
  refine Kn.begin (fun w0 hK => ?_)
  go_enter Try.func26, Try.ntmps26
  go_wp2_with ((with_reducible change wpList _ _ _ (_ :: _) _ _); first | ((with_reducible change wpList _ _ _ (Oper.mk _ (Op.load _ _) _ _ _ _ :: _) _ _); first | (refine KL_load1 hK (by rfl) _ _ rfl _ _ rfl ?_) | (refine KL_load hK (by rfl) _ _ rfl _ _ rfl ?_)) | ((with_reducible change wpList _ _ _ (Oper.mk _ (Op.store _ _ _) _ _ _ _ :: _) _ _); first | (refine KL_store1 hK (by rfl) _ _ _ rfl _ _ rfl _ (by conv => lhs; whnf) (by rfl) ?_; clear hK; intro w hK) | (refine KL_store hK (by rfl) _ _ _ rfl _ _ rfl _ rfl ?_; clear hK; intro w hK)) | ((with_reducible change wpList _ _ _ (Oper.mk _ (Op.alloc _) _ _ _ _ :: _) _ _); refine KL_alloc hK (by rfl) _ rfl ?_; clear hK; intro b w hK) | ((with_reducible change wpList _ _ _ (Oper.mk _ (Op.box _ _) _ _ _ _ :: _) _ _); refine KL_box hK (by rfl) _ _ rfl _ (by conv => lhs; whnf) ?_; clear hK; intro b w hK) | ((with_reducible change wpList _ _ _ (Oper.mk _ (Op.build _ _) _ _ _ _ :: _) _ _); first | (refine KL_build0 (by rfl) _ rfl ?_) | (refine KL_build1 (by rfl) _ _ _ rfl _ (by conv => lhs; whnf) ?_) | (refine KL_build2 (by rfl) _ _ _ _ _ rfl _ (by conv => lhs; whnf) _ (by conv => lhs; whnf) ?_) | (refine KL_build3 (by rfl) _ _ _ _ _ _ _ rfl _ (by conv => lhs; whnf) _ (by conv => lhs; whnf) _ (by conv => lhs; whnf) ?_) | (refine KL_build4 (by rfl) _ _ _ _ _ _ _ _ _ rfl _ (by conv => lhs; whnf) _ (by conv => lhs; whnf) _ (by conv => lhs; whnf) _ (by conv => lhs; whnf) ?_) | (refine KL_build5 (by rfl) _ _ _ _ _ _ _ _ _ _ _ rfl _ (by conv => lhs; whnf) _ (by conv => lhs; whnf) _ (by conv => lhs; whnf) _ (by conv => lhs; whnf) _ (by conv => lhs; whnf) ?_)) | ((with_reducible change wpList _ _ _ (Oper.mk _ (Op.binOp _ _ _ _ _) _ _ _ _ :: _) _ _); refine KL_cmp (by rfl) _ _ _ _ _ rfl _ _ rfl rfl ?_) | ((with_reducible change wpList _ _ _ (Oper.mk _ (Op.call _) _ _ _ _ :: _) _ _); refine KL_copy hK (by rfl) _ _ _ _ rfl _ _ _ _ _ _ _ _ rfl rfl _ _ (by first | exact Nat.min_eq_left (by first | decide | omega) | exact Nat.min_eq_right (by first | decide | omega)) (by first | exact Nat.mul_one _ | (conv => lhs; simp only [Nat.reduceMul])) ?_; clear hK; intro w hK) | ((with_reducible change wpList _ _ _ (Oper.mk _ (Op.index _ _ _) _ _ _ _ :: _) _ _); refine KL_index (by rfl) _ _ _ rfl _ rfl _ rfl _ (by conv => lhs; simp only [Int.reduceToNat, Int.toNat_natCast]) (by first | decide | omega) (by first | decide | omega) ?_) | ((with_reducible change wpList _ _ _ (Oper.mk _ (Op.sliceToArrayPointer _ _) _ _ _ _ :: _) _ _); refine KL_arr (by rfl) _ _ rfl _ _ _ rfl (by first | decide | omega) ?_))
  (go_quiet ((go_at_call 39; exact Calls.quiet_of_same (bcompare_q _ _ _ _ _ _ _ (Blk.drawn hK.has ⟨_, rfl⟩) (Blk.drawn hK.has ⟨_, rfl⟩) 40 hx hy bx bY))); replace hK := hK.drewN nq; generalize World.drewN _ nq = w at hK ⊢; clear nq)
  go_wp2_with fail
  go_ret
  exact ⟨rfl, hK.below⟩
set_option maxHeartbeats 400000 in
theorem compare_r (xs ys : List Int) (w : World) (hx : xs.length = 40) (hy : ys.length = 40) :
    Calls Try.prog 27 #[.agg (U xs).toArray, .agg (U ys).toArray] w fun e w' => e = .returned (.int .i64 (cmpL xs ys)) ∧ Below w.heap.size w w' := by
  refine Kn.begin (fun w0 hK => ?_)
  go_enter Try.func27, Try.ntmps27
  go_wp2_with ((with_reducible change wpList _ _ _ (_ :: _) _ _); first | ((with_reducible change wpList _ _ _ (Oper.mk _ (Op.load _ _) _ _ _ _ :: _) _ _); first | (refine KL_load1 hK (by rfl) _ _ rfl _ _ rfl ?_) | (refine KL_load hK (by rfl) _ _ rfl _ _ rfl ?_)) | ((with_reducible change wpList _ _ _ (Oper.mk _ (Op.store _ _ _) _ _ _ _ :: _) _ _); first | (refine KL_store1 hK (by rfl) _ _ _ rfl _ _ rfl _ (by conv => lhs; whnf) (by rfl) ?_; clear hK; intro w hK) | (refine KL_store hK (by rfl) _ _ _ rfl _ _ rfl _ rfl ?_; clear hK; intro w hK)) | ((with_reducible change wpList _ _ _ (Oper.mk _ (Op.alloc _) _ _ _ _ :: _) _ _); refine KL_alloc hK (by rfl) _ rfl ?_; clear hK; intro b w hK) | ((with_reducible change wpList _ _ _ (Oper.mk _ (Op.box _ _) _ _ _ _ :: _) _ _); refine KL_box hK (by rfl) _ _ rfl _ (by conv => lhs; whnf) ?_; clear hK; intro b w hK) | ((with_reducible change wpList _ _ _ (Oper.mk _ (Op.build _ _) _ _ _ _ :: _) _ _); first | (refine KL_build0 (by rfl) _ rfl ?_) | (refine KL_build1 (by rfl) _ _ _ rfl _ (by conv => lhs; whnf) ?_) | (refine KL_build2 (by rfl) _ _ _ _ _ rfl _ (by conv => lhs; whnf) _ (by conv => lhs; whnf) ?_) | (refine KL_build3 (by rfl) _ _ _ _ _ _ _ rfl _ (by conv => lhs; whnf) _ (by conv => lhs; whnf) _ (by conv => lhs; whnf) ?_) | (refine KL_build4 (by rfl) _ _ _ _ _ _ _ _ _ rfl _ (by conv => lhs; whnf) _ (by conv => lhs; whnf) _ (by conv => lhs; whnf) _ (by conv => lhs; whnf) ?_) | (refine KL_build5 (by rfl) _ _ _ _ _ _ _ _ _ _ _ rfl _ (by conv => lhs; whnf) _ (by conv => lhs; whnf) _ (by conv => lhs; whnf) _ (by conv => lhs; whnf) _ (by conv => lhs; whnf) ?_)) | ((with_reducible change wpList _ _ _ (Oper.mk _ (Op.binOp _ _ _ _ _) _ _ _ _ :: _) _ _); refine KL_cmp (by rfl) _ _ _ _ _ rfl _ _ rfl rfl ?_) | ((with_reducible change wpList _ _ _ (Oper.mk _ (Op.call _) _ _ _ _ :: _) _ _); refine KL_copy hK (by rfl) _ _ _ _ rfl _ _ _ _ _ _ _ _ rfl rfl _ _ (by first | exact Nat.min_eq_left (by first | decide | omega) | exact Nat.min_eq_right (by first | decide | omega)) (by first | exact Nat.mul_one _ | (conv => lhs; simp only [Nat.reduceMul])) ?_; clear hK; intro w hK) | ((with_reducible change wpList _ _ _ (Oper.mk _ (Op.index _ _ _) _ _ _ _ :: _) _ _); refine KL_index (by rfl) _ _ _ rfl _ rfl _ rfl _ (by conv => lhs; simp only [Int.reduceToNat, Int.toNat_natCast]) (by first | decide | omega) (by first | decide | omega) ?_) | ((with_reducible change wpList _ _ _ (Oper.mk _ (Op.sliceToArrayPointer _ _) _ _ _ _ :: _) _ _); refine KL_arr (by rfl) _ _ rfl _ _ _ rfl (by first | decide | omega) ?_))
  obtain ⟨b1, rfl⟩ := hK.n0
  obtain ⟨b2, rfl⟩ := hK.n1
  go_loopw [5] (fun i wr => ∃ k : Nat, k ≤ 40 ∧ i = .int .i64 k ∧ xs.take k = ys.take k ∧ Kn Nil w0 wr [(b1, 41, U ys), (b2, 41, U xs)]) (fun i _ => 40 - (intOf i).toNat)
  case atStart => exact ⟨0, by omega, rfl, rfl, hK⟩
  case round =>
    clear hK
    obtain ⟨k, hk, rfl, ht, hK⟩ := hrel
    by_cases hlt : k < 40
    · have hkb : decide ((k : Int) < 40) = true := by simp; omega
      have h1' := (hK.has : Blk wr b2 41 (U xs)).cell k
      have h2' := (hK.has : Blk wr b1 41 (U ys)).cell k
      rw [U_at, List.getElem?_eq_getElem (by omega)] at h1' h2'
      have e1 : xs[k]?.getD 0 = xs[k]'(by omega) := by rw [List.getElem?_eq_getElem (by omega)]; rfl
      have e2 : ys[k]?.getD 0 = ys[k]'(by omega) := by rw [List.getElem?_eq_getElem (by omega)]; rfl
      have L1 := cmp_lt k xs ys ht (by omega) (by omega)
      have L2 := cmp_gt k xs ys ht (by omega) (by omega)
      have L3 := take_next k xs ys ht (by omega) (by omega)
      rw [e1, e2] at L1 L2 L3
      clear e1 e2
      generalize hX : xs[k]'(by omega) = x at *
      generalize hY : ys[k]'(by omega) = y at *
      clear hX hY
      simp only [Option.map_some] at h1' h2'
      have i1 : (0 : Int) ≤ k := by omega
      have i2 : (k : Int) < 40 := by omega
      rcases Int.lt_trichotomy x y with h | h | h
      · have d1 : decide (x < y) = true := by simpa using h
        go_wp2_with fail
        go_quiet (fail)
        go_wp2_with fail
        go_ret
        exact ⟨rint (L1 h), (hK.drewN _).below⟩
      · have d1 : decide (x < y) = false := by simp; omega
        have d2 : decide (y < x) = false := by simp; omega
        have L4 := Lib.hid (L3 h)
        clear L1 L2 L3 h
        go_wp2_with fail
        go_quiet (fail)
        go_wp2_with fail
        go_quiet (fail)
        go_wp2_with fail
        go_roundw
        case rel => exact ⟨k + 1, by omega, by go_num, L4.out, hK.drewN _⟩
        case measure => simp [intOf]; omega
      · have d1 : decide (x < y) = false := by simp; omega
        have d2 : decide (y < x) = true := by simpa using h
        go_wp2_with fail
        go_quiet (fail)
        go_wp2_with fail
        go_quiet (fail)
        go_wp2_with fail
        go_ret
        exact ⟨rint (L2 h), ((hK.drewN _).drewN _).below⟩
    · obtain rfl : k = 40 := by omega
      go_wp2_with fail
      go_ret
      refine ⟨rint ?_, hK.below⟩
      rw [cmp_prefix 40 xs ys ht, List.drop_eq_nil_of_le (by omega), List.drop_eq_nil_of_le (by omega)]; rfl
end Go.Proofs.Ytcpkbhoocblpjaa.E
