/- The reference's Place, Slice, Right: what is right. -/
import Derived.Test.YtcpkbhoocblpjaaE2
namespace Go.Proofs.Ytcpkbhoocblpjaa.E
set_option linter.all false
open Go Go.RowKit

def It.plOk (i : It) : Bool := inB i.at_ 0 262144 && inB i.sec 1 1024 && inB i.un 1 16 && inB i.refs 1 2147483647
def It.slOk (i : It) : Bool := inB i.off 0 15 && inB i.mask 1 255
set_option maxHeartbeats 400000 in
theorem slice_r (i : It) (w : World) : Calls Try.prog 43 #[.agg i.sl.toArray] w fun e w' => e = .returned (.bool i.slOk) ∧ Below w.heap.size w w' := by
  refine Kn.begin (fun w0 hK => ?_)
  obtain ⟨r, hr⟩ : ∃ r, i.slOk = r := ⟨_, rfl⟩
  rw [hr]
  unfold It.slOk at hr
  cases h1 : inB i.off 0 15 <;> rw [h1] at hr
  · go_enter Try.func43, Try.ntmps43
    go_wp2_with (first | ((with_reducible change wpList _ _ _ (_ :: _) _ _); first | ((with_reducible change wpList _ _ _ (Oper.mk _ (Op.load _ _) _ _ _ _ :: _) _ _); first | (refine KL_load1 hK (by rfl) _ _ rfl _ _ rfl ?_) | (refine KL_load hK (by rfl) _ _ rfl _ _ rfl ?_)) | ((with_reducible change wpList _ _ _ (Oper.mk _ (Op.store _ _ _) _ _ _ _ :: _) _ _); first | (refine KL_store1 hK (by rfl) _ _ _ rfl _ _ rfl _ (by conv => lhs; whnf) (by rfl) ?_; clear hK; intro w hK) | (refine KL_store hK (by rfl) _ _ _ rfl _ _ rfl _ rfl ?_; clear hK; intro w hK)) | ((with_reducible change wpList _ _ _ (Oper.mk _ (Op.alloc _) _ _ _ _ :: _) _ _); refine KL_alloc hK (by rfl) _ rfl ?_; clear hK; intro b w hK) | ((with_reducible change wpList _ _ _ (Oper.mk _ (Op.box _ _) _ _ _ _ :: _) _ _); refine KL_box hK (by rfl) _ _ rfl _ (by conv => lhs; whnf) ?_; clear hK; intro b w hK) | ((with_reducible change wpList _ _ _ (Oper.mk _ (Op.build _ _) _ _ _ _ :: _) _ _); first | (refine KL_build0 (by rfl) _ rfl ?_) | (refine KL_build1 (by rfl) _ _ _ rfl _ (by conv => lhs; whnf) ?_) | (refine KL_build2 (by rfl) _ _ _ _ _ rfl _ (by conv => lhs; whnf) _ (by conv => lhs; whnf) ?_) | (refine KL_build3 (by rfl) _ _ _ _ _ _ _ rfl _ (by conv => lhs; whnf) _ (by conv => lhs; whnf) _ (by conv => lhs; whnf) ?_) | (refine KL_build4 (by rfl) _ _ _ _ _ _ _ _ _ rfl _ (by conv => lhs; whnf) _ (by conv => lhs; whnf) _ (by conv => lhs; whnf) _ (by conv => lhs; whnf) ?_) | (refine KL_build5 (by rfl) _ _ _ _ _ _ _ _ _ _ _ rfl _ (by conv => lhs; whnf) _ (by conv => lhs; whnf) _ (by conv => lhs; whnf) _ (by conv => lhs; whnf) _ (by conv => lhs; whnf) ?_)) | ((with_reducible change wpList _ _ _ (Oper.mk _ (Op.binOp _ _ _ _ _) _ _ _ _ :: _) _ _); refine KL_cmp (by rfl) _ _ _ _ _ rfl _ _ rfl rfl ?_) | ((with_reducible change wpList _ _ _ (Oper.mk _ (Op.call _) _ _ _ _ :: _) _ _); refine KL_copy hK (by rfl) _ _ _ _ rfl _ _ _ _ _ _ _ _ rfl rfl _ _ (by first | exact Nat.min_eq_left (by first | decide | omega) | exact Nat.min_eq_right (by first | decide | omega)) (by first | exact Nat.mul_one _ | (conv => lhs; simp only [Nat.reduceMul])) ?_; clear hK; intro w hK) | ((with_reducible change wpList _ _ _ (Oper.mk _ (Op.index _ _ _) _ _ _ _ :: _) _ _); refine KL_index (by rfl) _ _ _ rfl _ rfl _ rfl _ (by conv => lhs; simp only [Int.reduceToNat, Int.toNat_natCast]) (by first | decide | omega) (by first | decide | omega) ?_) | ((with_reducible change wpList _ _ _ (Oper.mk _ (Op.sliceToArrayPointer _ _) _ _ _ _ :: _) _ _); refine KL_arr (by rfl) _ _ rfl _ _ _ rfl (by first | decide | omega) ?_)) | (go_at_call 42; refine (within_r _ _ _ _).mono ?_; rintro e w1 ⟨rfl, rfl⟩))
    go_ret
    exact ⟨rbool (by simpa using hr), hK.below⟩
  · go_enter Try.func43, Try.ntmps43
    go_wp2_with (first | ((with_reducible change wpList _ _ _ (_ :: _) _ _); first | ((with_reducible change wpList _ _ _ (Oper.mk _ (Op.load _ _) _ _ _ _ :: _) _ _); first | (refine KL_load1 hK (by rfl) _ _ rfl _ _ rfl ?_) | (refine KL_load hK (by rfl) _ _ rfl _ _ rfl ?_)) | ((with_reducible change wpList _ _ _ (Oper.mk _ (Op.store _ _ _) _ _ _ _ :: _) _ _); first | (refine KL_store1 hK (by rfl) _ _ _ rfl _ _ rfl _ (by conv => lhs; whnf) (by rfl) ?_; clear hK; intro w hK) | (refine KL_store hK (by rfl) _ _ _ rfl _ _ rfl _ rfl ?_; clear hK; intro w hK)) | ((with_reducible change wpList _ _ _ (Oper.mk _ (Op.alloc _) _ _ _ _ :: _) _ _); refine KL_alloc hK (by rfl) _ rfl ?_; clear hK; intro b w hK) | ((with_reducible change wpList _ _ _ (Oper.mk _ (Op.box _ _) _ _ _ _ :: _) _ _); refine KL_box hK (by rfl) _ _ rfl _ (by conv => lhs; whnf) ?_; clear hK; intro b w hK) | ((with_reducible change wpList _ _ _ (Oper.mk _ (Op.build _ _) _ _ _ _ :: _) _ _); first | (refine KL_build0 (by rfl) _ rfl ?_) | (refine KL_build1 (by rfl) _ _ _ rfl _ (by conv => lhs; whnf) ?_) | (refine KL_build2 (by rfl) _ _ _ _ _ rfl _ (by conv => lhs; whnf) _ (by conv => lhs; whnf) ?_) | (refine KL_build3 (by rfl) _ _ _ _ _ _ _ rfl _ (by conv => lhs; whnf) _ (by conv => lhs; whnf) _ (by conv => lhs; whnf) ?_) | (refine KL_build4 (by rfl) _ _ _ _ _ _ _ _ _ rfl _ (by conv => lhs; whnf) _ (by conv => lhs; whnf) _ (by conv => lhs; whnf) _ (by conv => lhs; whnf) ?_) | (refine KL_build5 (by rfl) _ _ _ _ _ _ _ _ _ _ _ rfl _ (by conv => lhs; whnf) _ (by conv => lhs; whnf) _ (by conv => lhs; whnf) _ (by conv => lhs; whnf) _ (by conv => lhs; whnf) ?_)) | ((with_reducible change wpList _ _ _ (Oper.mk _ (Op.binOp _ _ _ _ _) _ _ _ _ :: _) _ _); refine KL_cmp (by rfl) _ _ _ _ _ rfl _ _ rfl rfl ?_) | ((with_reducible change wpList _ _ _ (Oper.mk _ (Op.call _) _ _ _ _ :: _) _ _); refine KL_copy hK (by rfl) _ _ _ _ rfl _ _ _ _ _ _ _ _ rfl rfl _ _ (by first | exact Nat.min_eq_left (by first | decide | omega) | exact Nat.min_eq_right (by first | decide | omega)) (by first | exact Nat.mul_one _ | (conv => lhs; simp only [Nat.reduceMul])) ?_; clear hK; intro w hK) | ((with_reducible change wpList _ _ _ (Oper.mk _ (Op.index _ _ _) _ _ _ _ :: _) _ _); refine KL_index (by rfl) _ _ _ rfl _ rfl _ rfl _ (by conv => lhs; simp only [Int.reduceToNat, Int.toNat_natCast]) (by first | decide | omega) (by first | decide | omega) ?_) | ((with_reducible change wpList _ _ _ (Oper.mk _ (Op.sliceToArrayPointer _ _) _ _ _ _ :: _) _ _); refine KL_arr (by rfl) _ _ rfl _ _ _ rfl (by first | decide | omega) ?_)) | (go_at_call 42; refine (within_r _ _ _ _).mono ?_; rintro e w1 ⟨rfl, rfl⟩))
    go_ret
    exact ⟨rbool (by simpa using hr), hK.below⟩
set_option maxHeartbeats 800000 in
theorem place_r (i : It) (w : World) : Calls Try.prog 41 #[.agg i.pl.toArray, .bool true] w fun e w' => e = .returned (.bool i.plOk) ∧ Below w.heap.size w w' := by
  refine Kn.begin (fun w0 hK => ?_)
  obtain ⟨r, hr⟩ : ∃ r, i.plOk = r := ⟨_, rfl⟩
  rw [hr]
  unfold It.plOk at hr
  cases h1 : inB i.at_ 0 262144 <;> cases h2 : inB i.sec 1 1024 <;> cases h3 : inB i.un 1 16 <;> rw [h1, h2, h3] at hr
  all_goals
    go_enter Try.func41, Try.ntmps41
    go_wp2_with (first | ((with_reducible change wpList _ _ _ (_ :: _) _ _); first | ((with_reducible change wpList _ _ _ (Oper.mk _ (Op.load _ _) _ _ _ _ :: _) _ _); first | (refine KL_load1 hK (by rfl) _ _ rfl _ _ rfl ?_) | (refine KL_load hK (by rfl) _ _ rfl _ _ rfl ?_)) | ((with_reducible change wpList _ _ _ (Oper.mk _ (Op.store _ _ _) _ _ _ _ :: _) _ _); first | (refine KL_store1 hK (by rfl) _ _ _ rfl _ _ rfl _ (by conv => lhs; whnf) (by rfl) ?_; clear hK; intro w hK) | (refine KL_store hK (by rfl) _ _ _ rfl _ _ rfl _ rfl ?_; clear hK; intro w hK)) | ((with_reducible change wpList _ _ _ (Oper.mk _ (Op.alloc _) _ _ _ _ :: _) _ _); refine KL_alloc hK (by rfl) _ rfl ?_; clear hK; intro b w hK) | ((with_reducible change wpList _ _ _ (Oper.mk _ (Op.box _ _) _ _ _ _ :: _) _ _); refine KL_box hK (by rfl) _ _ rfl _ (by conv => lhs; whnf) ?_; clear hK; intro b w hK) | ((with_reducible change wpList _ _ _ (Oper.mk _ (Op.build _ _) _ _ _ _ :: _) _ _); first | (refine KL_build0 (by rfl) _ rfl ?_) | (refine KL_build1 (by rfl) _ _ _ rfl _ (by conv => lhs; whnf) ?_) | (refine KL_build2 (by rfl) _ _ _ _ _ rfl _ (by conv => lhs; whnf) _ (by conv => lhs; whnf) ?_) | (refine KL_build3 (by rfl) _ _ _ _ _ _ _ rfl _ (by conv => lhs; whnf) _ (by conv => lhs; whnf) _ (by conv => lhs; whnf) ?_) | (refine KL_build4 (by rfl) _ _ _ _ _ _ _ _ _ rfl _ (by conv => lhs; whnf) _ (by conv => lhs; whnf) _ (by conv => lhs; whnf) _ (by conv => lhs; whnf) ?_) | (refine KL_build5 (by rfl) _ _ _ _ _ _ _ _ _ _ _ rfl _ (by conv => lhs; whnf) _ (by conv => lhs; whnf) _ (by conv => lhs; whnf) _ (by conv => lhs; whnf) _ (by conv => lhs; whnf) ?_)) | ((with_reducible change wpList _ _ _ (Oper.mk _ (Op.binOp _ _ _ _ _) _ _ _ _ :: _) _ _); refine KL_cmp (by rfl) _ _ _ _ _ rfl _ _ rfl rfl ?_) | ((with_reducible change wpList _ _ _ (Oper.mk _ (Op.call _) _ _ _ _ :: _) _ _); refine KL_copy hK (by rfl) _ _ _ _ rfl _ _ _ _ _ _ _ _ rfl rfl _ _ (by first | exact Nat.min_eq_left (by first | decide | omega) | exact Nat.min_eq_right (by first | decide | omega)) (by first | exact Nat.mul_one _ | (conv => lhs; simp only [Nat.reduceMul])) ?_; clear hK; intro w hK) | ((with_reducible change wpList _ _ _ (Oper.mk _ (Op.index _ _ _) _ _ _ _ :: _) _ _); refine KL_index (by rfl) _ _ _ rfl _ rfl _ rfl _ (by conv => lhs; simp only [Int.reduceToNat, Int.toNat_natCast]) (by first | decide | omega) (by first | decide | omega) ?_) | ((with_reducible change wpList _ _ _ (Oper.mk _ (Op.sliceToArrayPointer _ _) _ _ _ _ :: _) _ _); refine KL_arr (by rfl) _ _ rfl _ _ _ rfl (by first | decide | omega) ?_)) | (go_at_call 42; refine (within_r _ _ _ _).mono ?_; rintro e w1 ⟨rfl, rfl⟩))
    go_ret
    exact ⟨rbool (by simpa using hr), hK.below⟩
theorem It.app2 {i : It} : (i.sk ++ [i.off, i.mask] = (It.zero 0).sk ++ [(It.zero 0).off, (It.zero 0).mask]) ↔ (i.sk = List.replicate 32 0 ∧ i.off = 0 ∧ i.mask = 0) := by
  constructor
  · intro h
    obtain ⟨h1, h2⟩ := List.append_inj h (by rw [i.hs, (It.zero 0).hs])
    simp only [List.cons.injEq, and_true] at h2
    exact ⟨h1, h2.1, h2.2⟩
  · rintro ⟨h1, h2, h3⟩
    rw [h1, h2, h3]; rfl
theorem It.bare1 {i : It} (k : i.kind = 1) : decide (i.bare = i) = ((i.snap == 0) && ((i.unit == 0) && ((i.sk ++ [i.off, i.mask]) == ((It.zero 0).sk ++ [(It.zero 0).off, (It.zero 0).mask])))) := by
  rw [Bool.eq_iff_iff]
  unfold It.bare
  rw [if_pos k]
  simp only [decide_eq_true_eq, It.ext_iff, Bool.and_eq_true, beq_iff_eq, It.app2]
  simp only [It.zero]
  generalize List.replicate 32 (0 : Int) = z
  simp only [@eq_comm Int 0, @eq_comm _ z]
  constructor <;> (intro h; simp_all)
theorem It.bare2 {i : It} (k : i.kind = 2) : decide (i.bare = i) = ((i.key == (It.zero 0).key) && ([i.at_, i.sec, i.un, i.refs] == [(It.zero 0).at_, (It.zero 0).sec, (It.zero 0).un, (It.zero 0).refs])) := by
  rw [Bool.eq_iff_iff]
  unfold It.bare
  rw [if_neg (by omega), if_pos k]
  simp only [decide_eq_true_eq, It.ext_iff, Bool.and_eq_true, beq_iff_eq, It.app2, List.cons.injEq, and_true]
  simp only [It.zero]
  generalize List.replicate 32 (0 : Int) = z
  simp only [@eq_comm Int 0, @eq_comm _ z]
  constructor <;> (intro h; simp_all)
theorem It.bare3 {i : It} (k : i.kind = 3) : decide (i.bare = i) = ((i.unit == 0) && (((i.sk ++ [i.off, i.mask]) == ((It.zero 0).sk ++ [(It.zero 0).off, (It.zero 0).mask])) && ((i.key == (It.zero 0).key) && ([i.at_, i.sec, i.un, i.refs] == [(It.zero 0).at_, (It.zero 0).sec, (It.zero 0).un, (It.zero 0).refs])))) := by
  rw [Bool.eq_iff_iff]
  unfold It.bare
  rw [if_neg (by omega), if_neg (by omega), if_pos k]
  simp only [decide_eq_true_eq, It.ext_iff, Bool.and_eq_true, beq_iff_eq, It.app2, List.cons.injEq, and_true]
  simp only [It.zero]
  generalize List.replicate 32 (0 : Int) = z
  simp only [@eq_comm Int 0, @eq_comm _ z]
  constructor <;> (intro h; simp_all)
theorem It.right1 {i : It} (k : i.kind = 1) : i.right = (i.plOk && ((i.snap == 0) && ((i.unit == 0) && ((i.sk ++ [i.off, i.mask]) == ((It.zero 0).sk ++ [(It.zero 0).off, (It.zero 0).mask]))))) := by
  rw [It.right, It.bare1 k, It.fine, if_pos k, It.plOk]
theorem It.right2 {i : It} (k : i.kind = 2) : i.right = (inB i.snap 0 1073741824 && (inB i.unit 0 511 && (i.slOk && ((i.key == (It.zero 0).key) && ([i.at_, i.sec, i.un, i.refs] == [(It.zero 0).at_, (It.zero 0).sec, (It.zero 0).un, (It.zero 0).refs]))))) := by
  rw [It.right, It.bare2 k, It.fine, if_neg (by omega), if_pos k, It.slOk]
  simp only [Bool.and_assoc]
theorem It.right3 {i : It} (k : i.kind = 3) : i.right = (inB i.snap 1 1073741824 && ((i.unit == 0) && (((i.sk ++ [i.off, i.mask]) == ((It.zero 0).sk ++ [(It.zero 0).off, (It.zero 0).mask])) && ((i.key == (It.zero 0).key) && ([i.at_, i.sec, i.un, i.refs] == [(It.zero 0).at_, (It.zero 0).sec, (It.zero 0).un, (It.zero 0).refs]))))) := by
  rw [It.right, It.bare3 k, It.fine, if_neg (by omega), if_neg (by omega), if_pos k]
theorem It.right0 {i : It} (h1 : i.kind ≠ 1) (h2 : i.kind ≠ 2) (h3 : i.kind ≠ 3) : i.right = false := by
  rw [It.right, It.fine, if_neg h1, if_neg h2, if_neg h3]; rfl

end Go.Proofs.Ytcpkbhoocblpjaa.E
