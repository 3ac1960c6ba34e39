/- slices.BinarySearchFunc, leaf.place, inner.kid. -/
import Derived.Test.YtpkhomfblilkhaaF2
import Derived.Test.YtpkhomfblilkhaaK5
namespace Go.Proofs.Ytpkhomfblilkhaa.E
set_option linter.all false
open Go Go.RowKit

/-- A place, and whether it is there. -/
def SrRet (F : Nat → Prop) (w0 : World) (L : Mem) (i : Nat) (is : Bool) : Ending → World → Prop := fun e w' => e = .returned (.tuple #[.int .i64 i, .bool is]) ∧ Kn F w0 w' L
def isAt {α : Type} (g : α → Nat) (l : List α) (k : Nat) : Bool := match l[lo g l k]? with | some e => decide (g e = k) | none => false
set_option maxRecDepth 20000 in
set_option maxHeartbeats 800000 in
theorem place1_c (e : Ent) (k : Ky) (w : World) : Calls Try.prog 93 #[.agg (U e.b).toArray, .agg (U k.b).toArray] w fun r w' => r = .returned (.int .i64 (cmpN e.n k.n)) ∧ Below w.heap.size w w' := by
  refine Kn.begin (fun w0 hK => ?_)
  go_enter Try.func93, Try.ntmps93
  go_wp2_with (first | ((with_reducible change wpList _ _ _ (_ :: _) _ _); first | ((with_reducible change wpList _ _ _ (Oper.mk _ (Op.load _ _) _ _ _ _ :: _) _ _); first | (refine KL_load1 hK (by rfl) _ _ rfl _ _ rfl ?_) | (refine KL_load hK (by rfl) _ _ rfl _ _ rfl ?_)) | ((with_reducible change wpList _ _ _ (Oper.mk _ (Op.store _ _ _) _ _ _ _ :: _) _ _); first | (refine KL_store1 hK (by rfl) _ _ _ rfl _ _ rfl _ (by conv => lhs; whnf) (by rfl) ?_; clear hK; intro w hK) | (refine KL_store hK (by rfl) _ _ _ rfl _ _ rfl _ rfl ?_; clear hK; intro w hK)) | ((with_reducible change wpList _ _ _ (Oper.mk _ (Op.alloc _) _ _ _ _ :: _) _ _); refine KL_alloc hK (by rfl) _ rfl ?_; clear hK; intro b w hK) | ((with_reducible change wpList _ _ _ (Oper.mk _ (Op.box _ _) _ _ _ _ :: _) _ _); refine KL_box hK (by rfl) _ _ rfl _ (by conv => lhs; whnf) ?_; clear hK; intro b w hK) | ((with_reducible change wpList _ _ _ (Oper.mk _ (Op.build _ _) _ _ _ _ :: _) _ _); first | (refine KL_build0 (by rfl) _ rfl ?_) | (refine KL_build1 (by rfl) _ _ _ rfl _ (by conv => lhs; whnf) ?_) | (refine KL_build2 (by rfl) _ _ _ _ _ rfl _ (by conv => lhs; whnf) _ (by conv => lhs; whnf) ?_) | (refine KL_build3 (by rfl) _ _ _ _ _ _ _ rfl _ (by conv => lhs; whnf) _ (by conv => lhs; whnf) _ (by conv => lhs; whnf) ?_) | (refine KL_build4 (by rfl) _ _ _ _ _ _ _ _ _ rfl _ (by conv => lhs; whnf) _ (by conv => lhs; whnf) _ (by conv => lhs; whnf) _ (by conv => lhs; whnf) ?_) | (refine KL_build5 (by rfl) _ _ _ _ _ _ _ _ _ _ _ rfl _ (by conv => lhs; whnf) _ (by conv => lhs; whnf) _ (by conv => lhs; whnf) _ (by conv => lhs; whnf) _ (by conv => lhs; whnf) ?_)) | ((with_reducible change wpList _ _ _ (Oper.mk _ (Op.binOp _ _ _ _ _) _ _ _ _ :: _) _ _); refine KL_cmp (by rfl) _ _ _ _ _ rfl _ _ rfl rfl ?_) | ((with_reducible change wpList _ _ _ (Oper.mk _ (Op.call _) _ _ _ _ :: _) _ _); refine KL_copy hK (by rfl) _ _ _ _ rfl _ _ _ _ _ _ _ _ rfl rfl _ _ (by first | exact Nat.min_eq_left (by first | decide | omega) | exact Nat.min_eq_right (by first | decide | omega)) (by first | exact Nat.mul_one _ | (conv => lhs; simp only [Nat.reduceMul])) ?_; clear hK; intro w hK) | ((with_reducible change wpList _ _ _ (Oper.mk _ (Op.index _ _ _) _ _ _ _ :: _) _ _); refine KL_index (by rfl) _ _ _ rfl _ rfl _ rfl _ (by conv => lhs; simp only [Int.reduceToNat, Int.toNat_natCast]) (by first | decide | omega) (by first | decide | omega) ?_) | ((with_reducible change wpList _ _ _ (Oper.mk _ (Op.sliceToArrayPointer _ _) _ _ _ _ :: _) _ _); refine KL_arr (by rfl) _ _ rfl _ _ _ rfl (by first | decide | omega) ?_)) | (go_at_call 42; (with_reducible refine (compare_k e.ky k _).mono ?_); rintro e w1 ⟨rfl, hb⟩; replace hK := hK.call hb; clear hb))
  go_ret
  exact ⟨rfl, hK.below⟩
end Go.Proofs.Ytpkhomfblilkhaa.E
