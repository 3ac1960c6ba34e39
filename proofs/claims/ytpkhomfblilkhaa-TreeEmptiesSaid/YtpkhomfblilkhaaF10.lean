/- tree.set walked. -/
import Derived.Test.YtpkhomfblilkhaaF9
namespace Go.Proofs.Ytpkhomfblilkhaa.E
set_option linter.all false
open Go Go.RowKit

section
variable {F : Nat → Prop} {w0 w : World} {M L : Mem} {x y z u v : Nat × TypeId × List Value}
theorem Kn.in1 (hK : Kn F w0 w (x :: y :: (M ++ L))) : Kn F w0 w (y :: (M ++ x :: L)) := (Kn.mv hK [] (fun f => by simp only [wt_append, wt_cons, wt_nil]; omega))
theorem Kn.out1 (hK : Kn F w0 w (y :: (M ++ x :: L))) : Kn F w0 w (x :: y :: (M ++ L)) := (Kn.mv hK [] (fun f => by simp only [wt_append, wt_cons, wt_nil]; omega))
end
theorem set0_yes {es : List Ent} {e : Ent} (h : isAt Ent.n es e.n = true) : setT 0 es e = es.set (lo Ent.n es e.n) e := if_pos h
theorem set0_no {es : List Ent} {e : Ent} (h : isAt Ent.n es e.n = false) : setT 0 es e = es.take (lo Ent.n es e.n) ++ e :: es.drop (lo Ent.n es e.n) := if_neg (by rw [h]; exact Bool.false_ne_true)
theorem fresh0 {es : List Ent} {e : Ent} : freshT 0 es e = !isAt Ent.n es e.n := rfl
instance {e : Ent} : BSl Try.prog 40 1 [(0, .agg (U e.b).toArray)] 28 (U e.b) :=
  ⟨fun w => by have := bsl_dense (P := Try.prog) (T := 40) (e := 28) (size := 80) (bytes := 80) [.agg (U e.b).toArray] (by simp [Value.cells, e.len]) (by simp) (by simp) w; simpa [Value.cells] using this⟩
set_option maxRecDepth 20000 in
set_option maxHeartbeats 1600000 in
theorem set0_c {F : Nat → Prop} {w0 w : World} {L M : Mem} {p : Value} {es : List Ent} (e : Ent) (hK : Kn F w0 w (M ++ L)) (hR : Rep 0 es p M) (ho : Ok 0 es) : Calls Try.prog 44 #[p, .agg (U e.b).toArray] w (PutRet F w0 L 0 (setT 0 es e) p (.bool (freshT 0 es e))) := by
  obtain ⟨b, v, Mv, rfl, hV, rfl⟩ := hR
  obtain ⟨ha, hn⟩ := ho
  obtain ⟨res, hres⟩ : ∃ r, r = setT 0 es e := ⟨_, rfl⟩
  obtain ⟨i, hi⟩ : ∃ i, i = lo Ent.n es e.n := ⟨_, rfl⟩
  have hll : i ≤ es.length := hi ▸ lo_le (g := Ent.n) es e.n
  have hP := fun (w : World) (L : Mem) (h : Kn F w0 w ((b, 111, [v]) :: (Mv ++ L))) => place_c h hV ha (by omega) e.ky
  rw [← hres, fresh0]
  rw [List.cons_append] at hK
  change ∀ w L, Kn F w0 w ((b, 111, [v]) :: (Mv ++ L)) → Calls Try.prog 62 #[.pointer (some ⟨b, 0, none⟩), .agg (U e.ky.b).toArray] w (SrRet F w0 ((b, 111, [v]) :: (Mv ++ L)) (lo Ent.n es e.n) (isAt Ent.n es e.n)) at hP
  rw [← hi] at hP
  cases hat : isAt Ent.n es e.n
  · have hset := set0_no hat
    rw [← hi, ← hres] at hset
    rw [hat] at hP
    have HP := Lib.hid hP
    have HS := Lib.hid hset
    clear hP hset hres hat hi
    go_enter Try.func44, Try.ntmps44
    go_wp2_with (first | ((with_reducible change wpList _ _ _ (_ :: _) _ _); first | ((with_reducible change wpList _ _ _ (Oper.mk _ (Op.load _ _) _ _ _ _ :: _) _ _); first | (refine KL_load1 hK (by rfl) _ _ rfl _ _ rfl ?_) | (refine KL_load hK (by rfl) _ _ rfl _ _ rfl ?_)) | ((with_reducible change wpList _ _ _ (Oper.mk _ (Op.store _ _ _) _ _ _ _ :: _) _ _); first | (refine KL_store1 hK (by rfl) _ _ _ rfl _ _ rfl _ (by conv => lhs; whnf) (by rfl) ?_; clear hK; intro w hK) | (refine KL_store hK (by rfl) _ _ _ rfl _ _ rfl _ rfl ?_; clear hK; intro w hK)) | ((with_reducible change wpList _ _ _ (Oper.mk _ (Op.alloc _) _ _ _ _ :: _) _ _); refine KL_alloc hK (by rfl) _ rfl ?_; clear hK; intro b w hK) | ((with_reducible change wpList _ _ _ (Oper.mk _ (Op.box _ _) _ _ _ _ :: _) _ _); refine KL_box hK (by rfl) _ _ rfl _ (by conv => lhs; whnf) ?_; clear hK; intro b w hK) | ((with_reducible change wpList _ _ _ (Oper.mk _ (Op.build _ _) _ _ _ _ :: _) _ _); first | (refine KL_build0 (by rfl) _ rfl ?_) | (refine KL_build1 (by rfl) _ _ _ rfl _ (by conv => lhs; whnf) ?_) | (refine KL_build2 (by rfl) _ _ _ _ _ rfl _ (by conv => lhs; whnf) _ (by conv => lhs; whnf) ?_) | (refine KL_build3 (by rfl) _ _ _ _ _ _ _ rfl _ (by conv => lhs; whnf) _ (by conv => lhs; whnf) _ (by conv => lhs; whnf) ?_) | (refine KL_build4 (by rfl) _ _ _ _ _ _ _ _ _ rfl _ (by conv => lhs; whnf) _ (by conv => lhs; whnf) _ (by conv => lhs; whnf) _ (by conv => lhs; whnf) ?_) | (refine KL_build5 (by rfl) _ _ _ _ _ _ _ _ _ _ _ rfl _ (by conv => lhs; whnf) _ (by conv => lhs; whnf) _ (by conv => lhs; whnf) _ (by conv => lhs; whnf) _ (by conv => lhs; whnf) ?_)) | ((with_reducible change wpList _ _ _ (Oper.mk _ (Op.binOp _ _ _ _ _) _ _ _ _ :: _) _ _); refine KL_cmp (by rfl) _ _ _ _ _ rfl _ _ rfl rfl ?_) | ((with_reducible change wpList _ _ _ (Oper.mk _ (Op.call _) _ _ _ _ :: _) _ _); refine KL_copy hK (by rfl) _ _ _ _ rfl _ _ _ _ _ _ _ _ rfl rfl _ _ (by first | exact Nat.min_eq_left (by first | decide | omega) | exact Nat.min_eq_right (by first | decide | omega)) (by first | exact Nat.mul_one _ | (conv => lhs; simp only [Nat.reduceMul])) ?_; clear hK; intro w hK) | ((with_reducible change wpList _ _ _ (Oper.mk _ (Op.index _ _ _) _ _ _ _ :: _) _ _); refine KL_index (by rfl) _ _ _ rfl _ rfl _ rfl _ (by conv => lhs; simp only [Int.reduceToNat, Int.toNat_natCast]) (by first | decide | omega) (by first | decide | omega) ?_) | ((with_reducible change wpList _ _ _ (Oper.mk _ (Op.sliceToArrayPointer _ _) _ _ _ _ :: _) _ _); refine KL_arr (by rfl) _ _ rfl _ _ _ rfl (by first | decide | omega) ?_)) | (go_at_call 62; refine (HP.out _ _ hK.in1).mono ?_; rintro r w1 ⟨rfl, hK'⟩; clear hK; have hK := hK'.out1; clear hK'))
    have hone := rows_one rE_one es
    obtain ⟨bk, rfl⟩ := hK.n0
    apply wp_meet3 hK
    case h =>
      (refine wp_region_sub hK [(bk, 28, U e.b)] (by kernel_rfl) ?_; (try clear hK); intro w hK hS)
      (refine KS_take 0 (by kernel_rfl) (by decide +kernel) (by decide +kernel) (by exact fun _ _ _ h => h) (by rfl) (by intro w hSw; go_simp; with_reducible rfl) hS ?_; (try simp only [Act.put, List.setIfInBounds_toArray, List.set_cons_zero, List.set_cons_succ])); (refine KS_take 1 (by kernel_rfl) (by decide +kernel) (by decide +kernel) (by exact fun _ _ _ h => h) (by rfl) (by intro w hSw; go_simp; with_reducible rfl) hS ?_; (try simp only [Act.put, List.setIfInBounds_toArray, List.set_cons_zero, List.set_cons_succ])); (refine KS_take 2 (by kernel_rfl) (by decide +kernel) (by decide +kernel) (by exact fun _ _ _ h => h) (by rfl) (by intro w hSw; go_simp; with_reducible rfl) hS ?_; (try simp only [Act.put, List.setIfInBounds_toArray, List.set_cons_zero, List.set_cons_succ])); (refine KS_take 3 (by kernel_rfl) (by decide +kernel) (by decide +kernel) (by exact fun _ _ _ h => h) (by rfl) (by intro w hSw; go_simp; with_reducible rfl) hS ?_; (try simp only [Act.put, List.setIfInBounds_toArray, List.set_cons_zero, List.set_cons_succ])); (refine KS_take 5 (by kernel_rfl) (by decide +kernel) (by decide +kernel) (by exact fun _ _ _ h => h) (by rfl) (by intro w hSw; go_simp; with_reducible rfl) hS ?_; (try simp only [Act.put, List.setIfInBounds_toArray, List.set_cons_zero, List.set_cons_succ]))
      (refine KS_take 6 (by kernel_rfl) (by decide +kernel) (by decide +kernel) (by exact fun _ _ _ h => h) (by rfl) (by first | exact KS_load1 _ _ rfl _ _ rfl | exact KS_load _ _ rfl _ _ rfl) hS ?_; (try simp only [Act.put, List.setIfInBounds_toArray, List.set_cons_zero, List.set_cons_succ]))
      refine KS_two 4 7 (by decide +kernel) (by rfl) (by rfl) (fun K hk => ?_) (fun K hk => ?_)
      · refine KO_load1 hK _ _ rfl _ _ rfl ?_
        (refine hk.out _ _ hK.subs (fun hS => ?_); clear hk K; (try simp only [Act.put, List.setIfInBounds_toArray, List.set_cons_zero, List.set_cons_succ]))
        (refine KS_one 7 (by decide +kernel) (by rfl) (fun K hk => ?_); (refine KO_buildSlice hK _ _ _ rfl [(0, .agg (U e.b).toArray)] rfl ?_; (try clear hK); intro bv w hK); (refine hk.out _ _ hK.subs (fun hS => ?_); clear hk K; (try simp only [Act.put, List.setIfInBounds_toArray, List.set_cons_zero, List.set_cons_succ])))
        (refine KS_one 8 (by decide +kernel) (by rfl) (fun K hk => ?_); (go_simp; (go_at_call 63; refine (insE_c (M := Mv) hK.up3 hV hll (by omega) (by rw [U_length, e.len]) hone (U_one _)).mono ?_; rintro r w1 ⟨v', M', rfl, hS', hK'⟩; (try clear hK); have hK := hK'.dn3; clear hK'; dsimp only)); (refine hk.out _ _ hK.subs (fun hS => ?_); clear hk K; (try simp only [Act.put, List.setIfInBounds_toArray, List.set_cons_zero, List.set_cons_succ])))
        (refine KS_take 9 (by kernel_rfl) (by decide +kernel) (by decide +kernel) (by exact fun _ _ _ h => h) (by rfl) (by intro w hSw; go_simp; with_reducible rfl) hS ?_; (try simp only [Act.put, List.setIfInBounds_toArray, List.set_cons_zero, List.set_cons_succ])); (refine KS_take 10 (by kernel_rfl) (by decide +kernel) (by decide +kernel) (by exact fun _ _ _ h => h) (by rfl) (by intro w hSw; go_simp; with_reducible rfl) hS ?_; (try simp only [Act.put, List.setIfInBounds_toArray, List.set_cons_zero, List.set_cons_succ]))
        (refine KS_one 11 (by decide +kernel) (by rfl) (fun K hk => ?_); (refine KO_store1 hK _ _ _ rfl _ _ rfl _ (by conv => lhs; whnf) hS'.one ?_; (try clear hK); intro w hK); (refine hk.out _ _ hK.subs (fun hS => ?_); clear hk K; (try simp only [Act.put, List.setIfInBounds_toArray, List.set_cons_zero, List.set_cons_succ])))
        (refine wpAnyH_done (by kernel_rfl) ?_ _)
        exact ⟨bv, v', M', rfl, hS', hK⟩
      · refine KO_buildSlice hK _ _ _ rfl [(0, .agg (U e.b).toArray)] rfl ?_; (try clear hK); intro bv w hK
        (refine hk.out _ _ hK.subs (fun hS => ?_); clear hk K; (try simp only [Act.put, List.setIfInBounds_toArray, List.set_cons_zero, List.set_cons_succ]))
        (refine KS_one 4 (by decide +kernel) (by rfl) (fun K hk => ?_); (refine KO_load1 hK _ _ rfl _ _ rfl ?_); (refine hk.out _ _ hK.subs (fun hS => ?_); clear hk K; (try simp only [Act.put, List.setIfInBounds_toArray, List.set_cons_zero, List.set_cons_succ])))
        (refine KS_one 8 (by decide +kernel) (by rfl) (fun K hk => ?_); (go_simp; (go_at_call 63; refine (insE_c (M := Mv) hK.up3 hV hll (by omega) (by rw [U_length, e.len]) hone (U_one _)).mono ?_; rintro r w1 ⟨v', M', rfl, hS', hK'⟩; (try clear hK); have hK := hK'.dn3; clear hK'; dsimp only)); (refine hk.out _ _ hK.subs (fun hS => ?_); clear hk K; (try simp only [Act.put, List.setIfInBounds_toArray, List.set_cons_zero, List.set_cons_succ])))
        (refine KS_take 9 (by kernel_rfl) (by decide +kernel) (by decide +kernel) (by exact fun _ _ _ h => h) (by rfl) (by intro w hSw; go_simp; with_reducible rfl) hS ?_; (try simp only [Act.put, List.setIfInBounds_toArray, List.set_cons_zero, List.set_cons_succ])); (refine KS_take 10 (by kernel_rfl) (by decide +kernel) (by decide +kernel) (by exact fun _ _ _ h => h) (by rfl) (by intro w hSw; go_simp; with_reducible rfl) hS ?_; (try simp only [Act.put, List.setIfInBounds_toArray, List.set_cons_zero, List.set_cons_succ]))
        (refine KS_one 11 (by decide +kernel) (by rfl) (fun K hk => ?_); (refine KO_store1 hK _ _ _ rfl _ _ rfl _ (by conv => lhs; whnf) hS'.one ?_; (try clear hK); intro w hK); (refine hk.out _ _ hK.subs (fun hS => ?_); clear hk K; (try simp only [Act.put, List.setIfInBounds_toArray, List.set_cons_zero, List.set_cons_succ])))
        (refine wpAnyH_done (by kernel_rfl) ?_ _)
        exact ⟨bv, v', M', rfl, hS', hK⟩
    case k =>
      clear hK
      intro bv v' M' w hS' hK
      go_wp2_with fail
      go_ret
      have e1 := rows_ins rE_len es i e
      rw [rE] at e1
      rw [e1] at hS'
      obtain rfl : res = es.take i ++ e :: es.drop i := HS.out
      have l1 : (es.take i ++ e :: es.drop i).length = es.length + 1 := by simp; omega
      exact ⟨rfl, _, ⟨_, v', M', rfl, hS'.cg l1.symm rfl, rfl⟩, (hK.tl rfl).tl rfl⟩
  · have hset := set0_yes hat
    rw [← hi, ← hres] at hset
    rw [hat] at hP
    have hlt : i < es.length := by
      rcases Nat.lt_or_ge i es.length with h | h
      · exact h
      · rw [isAt, ← hi, List.getElem?_eq_none h] at hat; cases hat
    have HP := Lib.hid hP
    have HS := Lib.hid hset
    clear hP hset hres hat hi
    obtain ⟨g, cap, junk, rfl, rfl, hx, hc, hnc, hm⟩ := hV.pos (by omega)
    have hi' : (i : Int) < es.length := by omega
    haveI hspl : Spl (rows rE es ++ junk) (i * 80) 80 (U e.b) (rows rE (es.set i e) ++ junk) := ⟨rows_set rE_len es hlt e junk, by rw [List.length_append, hx]; omega, by rw [U_length, e.len]⟩
    go_enter Try.func44, Try.ntmps44
    go_wp2_with (first | ((with_reducible change wpList _ _ _ (_ :: _) _ _); first | ((with_reducible change wpList _ _ _ (Oper.mk _ (Op.load _ _) _ _ _ _ :: _) _ _); first | (refine KL_load1 hK (by rfl) _ _ rfl _ _ rfl ?_) | (refine KL_load hK (by rfl) _ _ rfl _ _ rfl ?_)) | ((with_reducible change wpList _ _ _ (Oper.mk _ (Op.store _ _ _) _ _ _ _ :: _) _ _); first | (refine KL_store1 hK (by rfl) _ _ _ rfl _ _ rfl _ (by conv => lhs; whnf) (by rfl) ?_; clear hK; intro w hK) | (refine KL_store hK (by rfl) _ _ _ rfl _ _ rfl _ rfl ?_; clear hK; intro w hK)) | ((with_reducible change wpList _ _ _ (Oper.mk _ (Op.alloc _) _ _ _ _ :: _) _ _); refine KL_alloc hK (by rfl) _ rfl ?_; clear hK; intro b w hK) | ((with_reducible change wpList _ _ _ (Oper.mk _ (Op.box _ _) _ _ _ _ :: _) _ _); refine KL_box hK (by rfl) _ _ rfl _ (by conv => lhs; whnf) ?_; clear hK; intro b w hK) | ((with_reducible change wpList _ _ _ (Oper.mk _ (Op.build _ _) _ _ _ _ :: _) _ _); first | (refine KL_build0 (by rfl) _ rfl ?_) | (refine KL_build1 (by rfl) _ _ _ rfl _ (by conv => lhs; whnf) ?_) | (refine KL_build2 (by rfl) _ _ _ _ _ rfl _ (by conv => lhs; whnf) _ (by conv => lhs; whnf) ?_) | (refine KL_build3 (by rfl) _ _ _ _ _ _ _ rfl _ (by conv => lhs; whnf) _ (by conv => lhs; whnf) _ (by conv => lhs; whnf) ?_) | (refine KL_build4 (by rfl) _ _ _ _ _ _ _ _ _ rfl _ (by conv => lhs; whnf) _ (by conv => lhs; whnf) _ (by conv => lhs; whnf) _ (by conv => lhs; whnf) ?_) | (refine KL_build5 (by rfl) _ _ _ _ _ _ _ _ _ _ _ rfl _ (by conv => lhs; whnf) _ (by conv => lhs; whnf) _ (by conv => lhs; whnf) _ (by conv => lhs; whnf) _ (by conv => lhs; whnf) ?_)) | ((with_reducible change wpList _ _ _ (Oper.mk _ (Op.binOp _ _ _ _ _) _ _ _ _ :: _) _ _); refine KL_cmp (by rfl) _ _ _ _ _ rfl _ _ rfl rfl ?_) | ((with_reducible change wpList _ _ _ (Oper.mk _ (Op.call _) _ _ _ _ :: _) _ _); refine KL_copy hK (by rfl) _ _ _ _ rfl _ _ _ _ _ _ _ _ rfl rfl _ _ (by first | exact Nat.min_eq_left (by first | decide | omega) | exact Nat.min_eq_right (by first | decide | omega)) (by first | exact Nat.mul_one _ | (conv => lhs; simp only [Nat.reduceMul])) ?_; clear hK; intro w hK) | ((with_reducible change wpList _ _ _ (Oper.mk _ (Op.index _ _ _) _ _ _ _ :: _) _ _); refine KL_index (by rfl) _ _ _ rfl _ rfl _ rfl _ (by conv => lhs; simp only [Int.reduceToNat, Int.toNat_natCast]) (by first | decide | omega) (by first | decide | omega) ?_) | ((with_reducible change wpList _ _ _ (Oper.mk _ (Op.sliceToArrayPointer _ _) _ _ _ _ :: _) _ _); refine KL_arr (by rfl) _ _ rfl _ _ _ rfl (by first | decide | omega) ?_)) | (go_at_call 62; refine (HP.out _ _ hK.in1).mono ?_; rintro r w1 ⟨rfl, hK'⟩; clear hK; have hK := hK'.out1; rw [List.singleton_append] at hK; clear hK'))
    (refine wp_region_kn hK [true,true,false] (by kernel_rfl) ?_; (try clear hK); intro w hK hS)
    (refine KS_take 0 (by kernel_rfl) (by decide +kernel) (by decide +kernel) (by exact fun _ _ _ h => h) (by rfl) (by intro w hSw; go_simp; with_reducible rfl) hS ?_; (try simp only [Act.put, List.setIfInBounds_toArray, List.set_cons_zero, List.set_cons_succ])); (refine KS_take 1 (by kernel_rfl) (by decide +kernel) (by decide +kernel) (by exact fun _ _ _ h => h) (by rfl) (by intro w hSw; go_simp; with_reducible rfl) hS ?_; (try simp only [Act.put, List.setIfInBounds_toArray, List.set_cons_zero, List.set_cons_succ])); (refine KS_take 2 (by kernel_rfl) (by decide +kernel) (by decide +kernel) (by exact fun _ _ _ h => h) (by rfl) (by intro w hSw; go_simp; with_reducible rfl) hS ?_; (try simp only [Act.put, List.setIfInBounds_toArray, List.set_cons_zero, List.set_cons_succ]))
    (refine KS_take 3 (by kernel_rfl) (by decide +kernel) (by decide +kernel) (by exact fun _ _ _ h => h) (by rfl) (by first | exact KS_load1 _ _ rfl _ _ rfl | exact KS_load _ _ rfl _ _ rfl) hS ?_; (try simp only [Act.put, List.setIfInBounds_toArray, List.set_cons_zero, List.set_cons_succ]))
    (refine KS_take 4 (by kernel_rfl) (by decide +kernel) (by decide +kernel) (by exact fun _ _ _ h => h) (by rfl) (by intro w hSw; go_simp; with_reducible rfl) hS ?_; (try simp only [Act.put, List.setIfInBounds_toArray, List.set_cons_zero, List.set_cons_succ]))
    (refine KS_take 5 (by kernel_rfl) (by decide +kernel) (by decide +kernel) (by exact fun _ _ _ h => h) (by rfl) (by first | exact KS_load1 _ _ rfl _ _ rfl | exact KS_load _ _ rfl _ _ rfl) hS ?_; (try simp only [Act.put, List.setIfInBounds_toArray, List.set_cons_zero, List.set_cons_succ]))
    (refine KS_take 6 (by kernel_rfl) (by decide +kernel) (by decide +kernel) (by exact fun _ _ _ h => h) (by rfl) (by intro w hSw; go_simp; with_reducible rfl) hS ?_; (try simp only [Act.put, List.setIfInBounds_toArray, List.set_cons_zero, List.set_cons_succ]))
    (refine KS_one 7 (by decide +kernel) (by rfl) (fun K hk => ?_); ((with_reducible change Oper.wp _ _ _ _ _ _); first | ((with_reducible change Oper.wp _ (Oper.mk _ (Op.store _ _ _) _ _ _ _) _ _ _ _); first | (refine KO_store1 hK _ _ _ rfl _ _ rfl _ (by conv => lhs; whnf) (by rfl) ?_; (try clear hK); intro w hK) | (refine KO_store hK _ _ _ rfl _ _ rfl _ rfl ?_; (try clear hK); intro w hK)) | ((with_reducible change Oper.wp _ (Oper.mk _ (Op.alloc _) _ _ _ _) _ _ _ _); refine KO_alloc hK _ rfl ?_; (try clear hK); intro b w hK) | ((with_reducible change Oper.wp _ (Oper.mk _ (Op.box _ _) _ _ _ _) _ _ _ _); refine KO_box hK _ _ rfl _ (by conv => lhs; whnf) ?_; (try clear hK); intro b w hK)); (refine hk.out _ _ hK.subs (fun hS => ?_); clear hk K; (try simp only [Act.put, List.setIfInBounds_toArray, List.set_cons_zero, List.set_cons_succ])))
    (refine wpAnyH_done (by kernel_rfl) ?_ _)
    go_wp2_with fail
    go_ret
    obtain rfl : res = es.set i e := HS.out
    have hl : (rows rE (es.set i e)).length = es.length * 80 := by rw [rows_length rE_len, List.length_set]
    have hS' : Sl 28 80 (es.set i e).length (rows rE (es.set i e)) (.slice (some ⟨g, 0, none⟩) es.length cap) [(g, 28, rows rE (es.set i e) ++ junk)] := by
      rw [List.length_set]
      exact .row g cap junk hl (by rw [List.length_append, hl, ← hx, ← List.length_append]; exact hc) hnc hm
    exact ⟨rfl, _, ⟨_, _, [_], rfl, hS', rfl⟩, hK.tl rfl⟩
end Go.Proofs.Ytpkhomfblilkhaa.E
