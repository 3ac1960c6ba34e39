/- Keys compared: entry.Compare and the reference's. -/
import Derived.Test.YtpkhomfblilkhaaF0
namespace Go.Proofs.Ytpkhomfblilkhaa.E
set_option linter.all false
open Go Go.RowKit

def cmpL : List Int → List Int → Int
  | x :: a, y :: b => if x < y then -1 else if y < x then 1 else cmpL a b
  | _, _ => 0
theorem cmp_bytes : ∀ (a b : List Int), a.length = b.length → AllB a → AllB b → Lib.compareBytes (Lib.bytesOf a) (Lib.bytesOf b) = cmpL a b
  | [], [], _, _, _ => rfl
  | x :: a, y :: b, h, ha, hb => by
    have ih := cmp_bytes a b (by simpa using h) (fun z hz => ha z (by simp [hz])) (fun z hz => hb z (by simp [hz]))
    obtain ⟨h1, h2⟩ := ha x (by simp)
    obtain ⟨h3, h4⟩ := hb y (by simp)
    have e : ∀ u v : Int, 0 ≤ u → u < 256 → 0 ≤ v → v < 256 → (u.toNat.toUInt8 < v.toNat.toUInt8 ↔ u < v) := fun u v _ _ _ _ => by
      rw [UInt8.lt_iff_toNat_lt]
      simp
      omega
    simp only [Lib.bytesOf, List.map_cons, Lib.compareBytes, cmpL] at ih ⊢
    rw [ih]
    simp only [e x y h1 h2 h3 h4, e y x h3 h4 h1 h2]
theorem run_compareSlices {P : Program} (w : World) (a b : Addr) (xs ys : List Int) (c c' : Nat) (hx : ∀ j x, xs[j]? = some x → w.cell? (a.add j) = some (.int .u8 x)) (hy : ∀ j x, ys[j]? = some x → w.cell? (b.add j) = some (.int .u8 x)) :
    (Extern.BytealgCompare.compare #[.slice (some a) xs.length c, .slice (some b) ys.length c']).run P w = .ok (.int .i64 (Lib.compareBytes (Lib.bytesOf xs) (Lib.bytesOf ys))) w := by
  have h1 := Lib.run_loadBytesX (P := P) w xs a .empty hx
  have h2 := Lib.run_loadBytesX (P := P) w ys b .empty hy
  change Sem.run P (do pure (goInt (Extern.BytealgCompare.cmp (← Extern.Bytes.bytesOf (.slice (some a) xs.length c)) (← Extern.Bytes.bytesOf (.slice (some b) ys.length c'))))) w = _
  simp only [Extern.Bytes.bytesOf, Sem.run_bind, Sem.run_pure, h1, h2, Result.andThen]
  rw [Lib.cmp_eq]
  simp [goInt]
set_option maxRecDepth 20000 in
theorem bcompare_q (a b : Nat) (T T' : TypeId) (xs ys : List Int) (w : World) (ha : Blk w a T (U xs)) (hb : Blk w b T' (U ys)) (n : Nat) (hl : xs.length = n) (hl' : ys.length = n) (bx : AllB xs) (bY : AllB ys) :
    Calls Try.prog 61 #[.slice (some ⟨a, 0, none⟩) n n, .slice (some ⟨b, 0, none⟩) n n] w fun e w' => e = .returned (.int .i64 (cmpL xs ys)) ∧ w' = w := by
  have hr := run_compareSlices (P := Try.prog) w ⟨a, 0, none⟩ ⟨b, 0, none⟩ xs ys n n
    (fun j x hj => by rw [Addr.add_mid, ha.cell, Nat.zero_add, U_at, hj]; rfl) (fun j x hj => by rw [Addr.add_mid, hb.cell, Nat.zero_add, U_at, hj]; rfl)
  rw [cmp_bytes xs ys (hl.trans hl'.symm) bx bY, hl, hl'] at hr
  go_enter Try.func61, Try.ntmps61
  go_wp2_with fail
  rw [run_callFunc_extern Try.func91 (by kernel_rfl) (by kernel_rfl) (by kernel_rfl) (e := Extern.BytealgCompare.compare) (by kernel_rfl), hr]
  simp only [Result.andThen]
  rw [Oper.upon_value]
  go_wp2
  go_ret
  exact ⟨rfl, rfl⟩
theorem cmp_prefix : ∀ (k : Nat) (a b : List Int), a.take k = b.take k → cmpL a b = cmpL (a.drop k) (b.drop k)
  | 0, _, _, _ => rfl
  | k + 1, [], [], _ => by simp
  | k + 1, [], _ :: _, h => by simp at h
  | k + 1, _ :: _, [], h => by simp at h
  | k + 1, x :: a, y :: b, h => by
    simp only [List.take_succ_cons, List.cons.injEq] at h
    obtain ⟨rfl, h⟩ := h
    rw [List.drop_succ_cons, List.drop_succ_cons, ← cmp_prefix k a b h, cmpL, if_neg (Int.lt_irrefl x), if_neg (Int.lt_irrefl x)]
theorem drop_at (l : List Int) (k : Nat) (h : k < l.length) : l.drop k = l[k]?.getD 0 :: l.drop (k + 1) := by
  rw [List.drop_eq_getElem_cons h]; simp [h]
theorem cmp_lt (k : Nat) (a b : List Int) (h : a.take k = b.take k) (ha : k < a.length) (hb : k < b.length) (hlt : a[k]?.getD 0 < b[k]?.getD 0) : (-1 : Int) = cmpL a b := by
  rw [cmp_prefix k a b h, drop_at a k ha, drop_at b k hb, cmpL, if_pos hlt]
theorem cmp_gt (k : Nat) (a b : List Int) (h : a.take k = b.take k) (ha : k < a.length) (hb : k < b.length) (hlt : b[k]?.getD 0 < a[k]?.getD 0) : (1 : Int) = cmpL a b := by
  rw [cmp_prefix k a b h, drop_at a k ha, drop_at b k hb, cmpL, if_neg (by omega), if_pos hlt]
theorem take_next (k : Nat) (a b : List Int) (h : a.take k = b.take k) (ha : k < a.length) (hb : k < b.length) (he : a[k]?.getD 0 = b[k]?.getD 0) : a.take (k + 1) = b.take (k + 1) := by
  rw [List.take_succ_eq_append_getElem ha, List.take_succ_eq_append_getElem hb, h]
  simp only [List.getElem?_eq_getElem ha, List.getElem?_eq_getElem hb, Option.getD_some] at he
  rw [he]
theorem cmp_self : ∀ (a : List Int), cmpL a a = 0
  | [] => rfl
  | x :: a => by rw [cmpL, if_neg (Int.lt_irrefl x), if_neg (Int.lt_irrefl x), cmp_self a]

set_option maxRecDepth 20000 in
set_option maxHeartbeats 800000 in
theorem compare_p (xs ys : List Int) (w : World) (hx : xs.length = 40) (hy : ys.length = 40) (bx : AllB xs) (bY : AllB ys) :
    Calls Try.prog 42 #[.agg (U xs).toArray, .agg (U ys).toArray] w fun e w' => e = .returned (.int .i64 (cmpL xs ys)) ∧ Below w.heap.size w w' := by
  refine Kn.begin (fun w0 hK => ?_)
  go_enter Try.func42, Try.ntmps42
  go_wp2_with ((with_reducible change wpList _ _ _ (_ :: _) _ _); first | ((with_reducible change wpList _ _ _ (Oper.mk _ (Op.load _ _) _ _ _ _ :: _) _ _); first | (refine KL_load1 hK (by rfl) _ _ rfl _ _ rfl ?_) | (refine KL_load hK (by rfl) _ _ rfl _ _ rfl ?_)) | ((with_reducible change wpList _ _ _ (Oper.mk _ (Op.store _ _ _) _ _ _ _ :: _) _ _); first | (refine KL_store1 hK (by rfl) _ _ _ rfl _ _ rfl _ (by conv => lhs; whnf) (by rfl) ?_; clear hK; intro w hK) | (refine KL_store hK (by rfl) _ _ _ rfl _ _ rfl _ rfl ?_; clear hK; intro w hK)) | ((with_reducible change wpList _ _ _ (Oper.mk _ (Op.alloc _) _ _ _ _ :: _) _ _); refine KL_alloc hK (by rfl) _ rfl ?_; clear hK; intro b w hK) | ((with_reducible change wpList _ _ _ (Oper.mk _ (Op.box _ _) _ _ _ _ :: _) _ _); refine KL_box hK (by rfl) _ _ rfl _ (by conv => lhs; whnf) ?_; clear hK; intro b w hK) | ((with_reducible change wpList _ _ _ (Oper.mk _ (Op.build _ _) _ _ _ _ :: _) _ _); first | (refine KL_build0 (by rfl) _ rfl ?_) | (refine KL_build1 (by rfl) _ _ _ rfl _ (by conv => lhs; whnf) ?_) | (refine KL_build2 (by rfl) _ _ _ _ _ rfl _ (by conv => lhs; whnf) _ (by conv => lhs; whnf) ?_) | (refine KL_build3 (by rfl) _ _ _ _ _ _ _ rfl _ (by conv => lhs; whnf) _ (by conv => lhs; whnf) _ (by conv => lhs; whnf) ?_) | (refine KL_build4 (by rfl) _ _ _ _ _ _ _ _ _ rfl _ (by conv => lhs; whnf) _ (by conv => lhs; whnf) _ (by conv => lhs; whnf) _ (by conv => lhs; whnf) ?_) | (refine KL_build5 (by rfl) _ _ _ _ _ _ _ _ _ _ _ rfl _ (by conv => lhs; whnf) _ (by conv => lhs; whnf) _ (by conv => lhs; whnf) _ (by conv => lhs; whnf) _ (by conv => lhs; whnf) ?_)) | ((with_reducible change wpList _ _ _ (Oper.mk _ (Op.binOp _ _ _ _ _) _ _ _ _ :: _) _ _); refine KL_cmp (by rfl) _ _ _ _ _ rfl _ _ rfl rfl ?_) | ((with_reducible change wpList _ _ _ (Oper.mk _ (Op.call _) _ _ _ _ :: _) _ _); refine KL_copy hK (by rfl) _ _ _ _ rfl _ _ _ _ _ _ _ _ rfl rfl _ _ (by first | exact Nat.min_eq_left (by first | decide | omega) | exact Nat.min_eq_right (by first | decide | omega)) (by first | exact Nat.mul_one _ | (conv => lhs; simp only [Nat.reduceMul])) ?_; clear hK; intro w hK) | ((with_reducible change wpList _ _ _ (Oper.mk _ (Op.index _ _ _) _ _ _ _ :: _) _ _); refine KL_index (by rfl) _ _ _ rfl _ rfl _ rfl _ (by conv => lhs; simp only [Int.reduceToNat, Int.toNat_natCast]) (by first | decide | omega) (by first | decide | omega) ?_) | ((with_reducible change wpList _ _ _ (Oper.mk _ (Op.sliceToArrayPointer _ _) _ _ _ _ :: _) _ _); refine KL_arr (by rfl) _ _ rfl _ _ _ rfl (by first | decide | omega) ?_))
  (go_quiet ((go_at_call 61; exact Calls.quiet_of_same (bcompare_q _ _ _ _ _ _ _ (Blk.drawn hK.has ⟨_, rfl⟩) (Blk.drawn hK.has ⟨_, rfl⟩) 40 hx hy bx bY))); replace hK := hK.drewN nq; generalize World.drewN _ nq = w at hK ⊢; clear nq)
  go_wp2_with fail
  go_ret
  exact ⟨rfl, hK.below⟩
set_option maxRecDepth 20000 in
set_option maxHeartbeats 800000 in
theorem compare_r (xs ys : List Int) (w : World) (hx : xs.length = 40) (hy : ys.length = 40) :
    Calls Try.prog 17 #[.agg (U xs).toArray, .agg (U ys).toArray] w fun e w' => e = .returned (.int .i64 (cmpL xs ys)) ∧ Below w.heap.size w w' := by
  refine Kn.begin (fun w0 hK => ?_)
  go_enter Try.func17, Try.ntmps17
  go_wp2_with ((with_reducible change wpList _ _ _ (_ :: _) _ _); first | ((with_reducible change wpList _ _ _ (Oper.mk _ (Op.load _ _) _ _ _ _ :: _) _ _); first | (refine KL_load1 hK (by rfl) _ _ rfl _ _ rfl ?_) | (refine KL_load hK (by rfl) _ _ rfl _ _ rfl ?_)) | ((with_reducible change wpList _ _ _ (Oper.mk _ (Op.store _ _ _) _ _ _ _ :: _) _ _); first | (refine KL_store1 hK (by rfl) _ _ _ rfl _ _ rfl _ (by conv => lhs; whnf) (by rfl) ?_; clear hK; intro w hK) | (refine KL_store hK (by rfl) _ _ _ rfl _ _ rfl _ rfl ?_; clear hK; intro w hK)) | ((with_reducible change wpList _ _ _ (Oper.mk _ (Op.alloc _) _ _ _ _ :: _) _ _); refine KL_alloc hK (by rfl) _ rfl ?_; clear hK; intro b w hK) | ((with_reducible change wpList _ _ _ (Oper.mk _ (Op.box _ _) _ _ _ _ :: _) _ _); refine KL_box hK (by rfl) _ _ rfl _ (by conv => lhs; whnf) ?_; clear hK; intro b w hK) | ((with_reducible change wpList _ _ _ (Oper.mk _ (Op.build _ _) _ _ _ _ :: _) _ _); first | (refine KL_build0 (by rfl) _ rfl ?_) | (refine KL_build1 (by rfl) _ _ _ rfl _ (by conv => lhs; whnf) ?_) | (refine KL_build2 (by rfl) _ _ _ _ _ rfl _ (by conv => lhs; whnf) _ (by conv => lhs; whnf) ?_) | (refine KL_build3 (by rfl) _ _ _ _ _ _ _ rfl _ (by conv => lhs; whnf) _ (by conv => lhs; whnf) _ (by conv => lhs; whnf) ?_) | (refine KL_build4 (by rfl) _ _ _ _ _ _ _ _ _ rfl _ (by conv => lhs; whnf) _ (by conv => lhs; whnf) _ (by conv => lhs; whnf) _ (by conv => lhs; whnf) ?_) | (refine KL_build5 (by rfl) _ _ _ _ _ _ _ _ _ _ _ rfl _ (by conv => lhs; whnf) _ (by conv => lhs; whnf) _ (by conv => lhs; whnf) _ (by conv => lhs; whnf) _ (by conv => lhs; whnf) ?_)) | ((with_reducible change wpList _ _ _ (Oper.mk _ (Op.binOp _ _ _ _ _) _ _ _ _ :: _) _ _); refine KL_cmp (by rfl) _ _ _ _ _ rfl _ _ rfl rfl ?_) | ((with_reducible change wpList _ _ _ (Oper.mk _ (Op.call _) _ _ _ _ :: _) _ _); refine KL_copy hK (by rfl) _ _ _ _ rfl _ _ _ _ _ _ _ _ rfl rfl _ _ (by first | exact Nat.min_eq_left (by first | decide | omega) | exact Nat.min_eq_right (by first | decide | omega)) (by first | exact Nat.mul_one _ | (conv => lhs; simp only [Nat.reduceMul])) ?_; clear hK; intro w hK) | ((with_reducible change wpList _ _ _ (Oper.mk _ (Op.index _ _ _) _ _ _ _ :: _) _ _); refine KL_index (by rfl) _ _ _ rfl _ rfl _ rfl _ (by conv => lhs; simp only [Int.reduceToNat, Int.toNat_natCast]) (by first | decide | omega) (by first | decide | omega) ?_) | ((with_reducible change wpList _ _ _ (Oper.mk _ (Op.sliceToArrayPointer _ _) _ _ _ _ :: _) _ _); refine KL_arr (by rfl) _ _ rfl _ _ _ rfl (by first | decide | omega) ?_))
  obtain ⟨b1, rfl⟩ := hK.n0
  obtain ⟨b2, rfl⟩ := hK.n1
  go_loopw [5] (fun i wr => ∃ k : Nat, k ≤ 40 ∧ i = .int .i64 k ∧ xs.take k = ys.take k ∧ Kn Nil w0 wr [(b1, 23, U ys), (b2, 23, U xs)]) (fun i _ => 40 - (intOf i).toNat)
  case atStart => exact ⟨0, by omega, rfl, rfl, hK⟩
  case round =>
    clear hK
    obtain ⟨k, hk, rfl, ht, hK⟩ := hrel
    by_cases hlt : k < 40
    · have hkb : decide ((k : Int) < 40) = true := by simp; omega
      have h1' := (hK.has : Blk wr b2 23 (U xs)).cell k
      have h2' := (hK.has : Blk wr b1 23 (U ys)).cell k
      rw [U_at, List.getElem?_eq_getElem (by omega)] at h1' h2'
      have e1 : xs[k]?.getD 0 = xs[k]'(by omega) := by rw [List.getElem?_eq_getElem (by omega)]; rfl
      have e2 : ys[k]?.getD 0 = ys[k]'(by omega) := by rw [List.getElem?_eq_getElem (by omega)]; rfl
      have L1 := cmp_lt k xs ys ht (by omega) (by omega)
      have L2 := cmp_gt k xs ys ht (by omega) (by omega)
      have L3 := take_next k xs ys ht (by omega) (by omega)
      rw [e1, e2] at L1 L2 L3
      clear e1 e2
      generalize hX : xs[k]'(by omega) = x at *
      generalize hY : ys[k]'(by omega) = y at *
      clear hX hY
      simp only [Option.map_some] at h1' h2'
      have i1 : (0 : Int) ≤ k := by omega
      have i2 : (k : Int) < 40 := by omega
      rcases Int.lt_trichotomy x y with h | h | h
      · have d1 : decide (x < y) = true := by simpa using h
        go_wp2_with fail
        go_quiet (fail)
        go_wp2_with fail
        go_ret
        exact ⟨rint (L1 h), (hK.drewN _).below⟩
      · have d1 : decide (x < y) = false := by simp; omega
        have d2 : decide (y < x) = false := by simp; omega
        have L4 := Lib.hid (L3 h)
        clear L1 L2 L3 h
        go_wp2_with fail
        go_quiet (fail)
        go_wp2_with fail
        go_quiet (fail)
        go_wp2_with fail
        go_roundw
        case rel => exact ⟨k + 1, by omega, by go_num, L4.out, hK.drewN _⟩
        case measure => simp [intOf]; omega
      · have d1 : decide (x < y) = false := by simp; omega
        have d2 : decide (y < x) = true := by simpa using h
        go_wp2_with fail
        go_quiet (fail)
        go_wp2_with fail
        go_quiet (fail)
        go_wp2_with fail
        go_ret
        exact ⟨rint (L2 h), ((hK.drewN _).drewN _).below⟩
    · obtain rfl : k = 40 := by omega
      go_wp2_with fail
      go_ret
      refine ⟨rint ?_, hK.below⟩
      rw [cmp_prefix 40 xs ys ht, List.drop_eq_nil_of_le (by omega), List.drop_eq_nil_of_le (by omega)]; rfl
end Go.Proofs.Ytpkhomfblilkhaa.E
