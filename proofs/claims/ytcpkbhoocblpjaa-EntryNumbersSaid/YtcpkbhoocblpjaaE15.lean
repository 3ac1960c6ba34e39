/- bent walked: one field of an item turned. -/
import Derived.Test.YtcpkbhoocblpjaaE10
namespace Go.Proofs.Ytcpkbhoocblpjaa.E
set_option linter.all false
open Go Go.RowKit

theorem put_n (i : It) (x : Int) : i.row.set 33 (.int .i64 x) = ({ i with at_ := x } : It).row ∧ i.row.set 34 (.int .i64 x) = ({ i with sec := x } : It).row ∧ i.row.set 35 (.int .i64 x) = ({ i with un := x } : It).row ∧ i.row.set 36 (.int .i64 x) = ({ i with refs := x } : It).row := by
  refine ⟨?_, ?_, ?_, ?_⟩
  · rw [set_at (pre := .int .u8 i.kind :: U i.key) (x := .int .i64 i.at_) (post := [.int .i64 i.sec, .int .i64 i.un, .int .i64 i.refs] ++ (.int .i64 i.snap :: .int .i64 i.unit :: i.sl)) (by simp [It.row, It.pl]) (by simp [i.hk])]
    simp [It.row, It.pl, It.sl]
  · rw [set_at (pre := .int .u8 i.kind :: (U i.key ++ [.int .i64 i.at_])) (x := .int .i64 i.sec) (post := [.int .i64 i.un, .int .i64 i.refs] ++ (.int .i64 i.snap :: .int .i64 i.unit :: i.sl)) (by simp [It.row, It.pl]) (by simp [i.hk])]
    simp [It.row, It.pl, It.sl]
  · rw [set_at (pre := .int .u8 i.kind :: (U i.key ++ [.int .i64 i.at_, .int .i64 i.sec])) (x := .int .i64 i.un) (post := [.int .i64 i.refs] ++ (.int .i64 i.snap :: .int .i64 i.unit :: i.sl)) (by simp [It.row, It.pl]) (by simp [i.hk])]
    simp [It.row, It.pl, It.sl]
  · rw [set_at (pre := .int .u8 i.kind :: (U i.key ++ [.int .i64 i.at_, .int .i64 i.sec, .int .i64 i.un])) (x := .int .i64 i.refs) (post := .int .i64 i.snap :: .int .i64 i.unit :: i.sl) (by simp [It.row, It.pl]) (by simp [i.hk])]
    simp [It.row, It.pl, It.sl]
instance {i : It} {x : Int} : Put i.row 33 (.int .i64 x) ({ i with at_ := x } : It).row := ⟨(put_n i x).1, by simp⟩
instance {i : It} {x : Int} : Put i.row 34 (.int .i64 x) ({ i with sec := x } : It).row := ⟨(put_n i x).2.1, by simp⟩
instance {i : It} {x : Int} : Put i.row 35 (.int .i64 x) ({ i with un := x } : It).row := ⟨(put_n i x).2.2.1, by simp⟩
instance {i : It} {x : Int} : Put i.row 36 (.int .i64 x) ({ i with refs := x } : It).row := ⟨(put_n i x).2.2.2, by simp⟩
theorem and31 (v : Int) : ∃ m : Nat, m < 32 ∧ bits .and .i64 v 31 = (m : Int) := by
  refine ⟨(BitVec.ofInt 64 v).toNat % 32, Nat.mod_lt _ (by decide), ?_⟩
  have h : (BitVec.ofInt 64 v &&& BitVec.ofInt 64 31).toNat = (BitVec.ofInt 64 v).toNat % 32 := by
    rw [BitVec.toNat_and, show (BitVec.ofInt 64 31).toNat = 31 from rfl]
    exact Nat.and_two_pow_sub_one_eq_mod _ 5
  show IntKind.i64.wrap ((BitVec.ofInt 64 v &&& BitVec.ofInt 64 31).toNat : Int) = _
  rw [h, IntKind.wrap_i64]
  omega
/-- Some item is handed back. -/
def SomeIt (e : Ending) : Prop := ∃ j : It, e = .returned (.agg j.row.toArray)
set_option maxRecDepth 20000 in
set_option maxHeartbeats 3200000 in
theorem bent_c (i : It) (n : Nat) (hn : n < 11) (v : Int) (w : World) : Calls Try.prog 29 #[.agg i.row.toArray, .int .i64 n, .int .i64 v] w fun e w' => SomeIt e ∧ Below w.heap.size w w' := by
  obtain ⟨m, hm, hb⟩ := and31 v
  have hcase : n = 0 ∨ n = 1 ∨ n = 2 ∨ n = 3 ∨ n = 4 ∨ n = 5 ∨ n = 6 ∨ n = 7 ∨ n = 8 ∨ n = 9 ∨ n = 10 := by omega
  have q1 : Put i.row (1 + m) (.int .u8 1) ({ i with key := i.key.set m 1, hk := by simp [i.hk] } : It).row := ⟨put_keyAt i 1 hm, by simp; omega⟩
  have q2 : Put i.row (39 + m) (.int .u8 1) ({ i with sk := i.sk.set m 1, hs := by simp [i.hs] } : It).row := ⟨put_skAt i 1 hm, by simp; omega⟩
  rcases hcase with rfl | rfl | rfl | rfl | rfl | rfl | rfl | rfl | rfl | rfl | rfl
  all_goals
    clear hn
    refine Kn.begin (fun w0 hK => ?_)
    go_enter Try.func29, Try.ntmps29
    go_wp2_with ((with_reducible change wpList _ _ _ (_ :: _) _ _); first | ((with_reducible change wpList _ _ _ (Oper.mk _ (Op.load _ _) _ _ _ _ :: _) _ _); first | (refine KL_load1 hK (by rfl) _ _ rfl _ _ rfl ?_) | (refine KL_load hK (by rfl) _ _ rfl _ _ rfl ?_)) | ((with_reducible change wpList _ _ _ (Oper.mk _ (Op.store _ _ _) _ _ _ _ :: _) _ _); first | (refine KL_store1 hK (by rfl) _ _ _ rfl _ _ rfl _ (by conv => lhs; whnf) (by rfl) ?_; clear hK; intro w hK) | (refine KL_store hK (by rfl) _ _ _ rfl _ _ rfl _ rfl ?_; clear hK; intro w hK)) | ((with_reducible change wpList _ _ _ (Oper.mk _ (Op.alloc _) _ _ _ _ :: _) _ _); refine KL_alloc hK (by rfl) _ rfl ?_; clear hK; intro b w hK) | ((with_reducible change wpList _ _ _ (Oper.mk _ (Op.box _ _) _ _ _ _ :: _) _ _); refine KL_box hK (by rfl) _ _ rfl _ (by conv => lhs; whnf) ?_; clear hK; intro b w hK) | ((with_reducible change wpList _ _ _ (Oper.mk _ (Op.build _ _) _ _ _ _ :: _) _ _); first | (refine KL_build0 (by rfl) _ rfl ?_) | (refine KL_build1 (by rfl) _ _ _ rfl _ (by conv => lhs; whnf) ?_) | (refine KL_build2 (by rfl) _ _ _ _ _ rfl _ (by conv => lhs; whnf) _ (by conv => lhs; whnf) ?_) | (refine KL_build3 (by rfl) _ _ _ _ _ _ _ rfl _ (by conv => lhs; whnf) _ (by conv => lhs; whnf) _ (by conv => lhs; whnf) ?_) | (refine KL_build4 (by rfl) _ _ _ _ _ _ _ _ _ rfl _ (by conv => lhs; whnf) _ (by conv => lhs; whnf) _ (by conv => lhs; whnf) _ (by conv => lhs; whnf) ?_) | (refine KL_build5 (by rfl) _ _ _ _ _ _ _ _ _ _ _ rfl _ (by conv => lhs; whnf) _ (by conv => lhs; whnf) _ (by conv => lhs; whnf) _ (by conv => lhs; whnf) _ (by conv => lhs; whnf) ?_)) | ((with_reducible change wpList _ _ _ (Oper.mk _ (Op.binOp _ _ _ _ _) _ _ _ _ :: _) _ _); refine KL_cmp (by rfl) _ _ _ _ _ rfl _ _ rfl rfl ?_) | ((with_reducible change wpList _ _ _ (Oper.mk _ (Op.call _) _ _ _ _ :: _) _ _); refine KL_copy hK (by rfl) _ _ _ _ rfl _ _ _ _ _ _ _ _ rfl rfl _ _ (by first | exact Nat.min_eq_left (by first | decide | omega) | exact Nat.min_eq_right (by first | decide | omega)) (by first | exact Nat.mul_one _ | (conv => lhs; simp only [Nat.reduceMul])) ?_; clear hK; intro w hK) | ((with_reducible change wpList _ _ _ (Oper.mk _ (Op.index _ _ _) _ _ _ _ :: _) _ _); refine KL_index (by rfl) _ _ _ rfl _ rfl _ rfl _ (by conv => lhs; simp only [Int.reduceToNat, Int.toNat_natCast]) (by first | decide | omega) (by first | decide | omega) ?_) | ((with_reducible change wpList _ _ _ (Oper.mk _ (Op.sliceToArrayPointer _ _) _ _ _ _ :: _) _ _); refine KL_arr (by rfl) _ _ rfl _ _ _ rfl (by first | decide | omega) ?_))
    ((try simp only [Exit.inBlock, Exit.then]); (first | refine KR_ct hK rfl rfl rfl ?_ | refine KR_c hK rfl rfl rfl ?_))
    exact ⟨⟨_, rfl⟩, hK.below⟩
end Go.Proofs.Ytcpkbhoocblpjaa.E
