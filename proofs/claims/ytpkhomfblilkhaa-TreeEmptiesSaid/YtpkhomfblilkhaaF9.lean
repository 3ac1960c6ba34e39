/- inner.cut walked. -/
import Derived.Test.YtpkhomfblilkhaaF8
namespace Go.Proofs.Ytpkhomfblilkhaa.E
set_option linter.all false
open Go Go.RowKit

section
variable {F : Nat → Prop} {w0 w : World} {M L : Mem} {x y z u v : Nat × TypeId × List Value}
theorem Kn.up4 (hK : Kn F w0 w (x :: y :: z :: u :: (M ++ L))) : Kn F w0 w (M ++ x :: y :: z :: u :: L) := (Kn.mv hK [] (fun f => by simp only [wt_append, wt_cons, wt_nil]; omega))
theorem Kn.dn4 (hK : Kn F w0 w (M ++ x :: y :: z :: u :: L)) : Kn F w0 w (x :: y :: z :: u :: (M ++ L)) := (Kn.mv hK [] (fun f => by simp only [wt_append, wt_cons, wt_nil]; omega))
theorem Kn.up5 (hK : Kn F w0 w (x :: y :: z :: u :: v :: (M ++ L))) : Kn F w0 w (M ++ x :: y :: z :: u :: v :: L) := (Kn.mv hK [] (fun f => by simp only [wt_append, wt_cons, wt_nil]; omega))
theorem Kn.dn5 (hK : Kn F w0 w (M ++ x :: y :: z :: u :: v :: L)) : Kn F w0 w (x :: y :: z :: u :: v :: (M ++ L)) := (Kn.mv hK [] (fun f => by simp only [wt_append, wt_cons, wt_nil]; omega))
end
theorem Sl.one {e size n : Nat} {xs : List Value} {v : Value} {M : Mem} (h : Sl e size n xs v M) : v.oneCell' = true := by
  cases h <;> rfl
/-- The beginning of a region that draws its order, what its loads see being told. -/
theorem wp_region_sub {P : Program} {ops : Array Oper} {a : Act} {w w0 : World} {Q : Exit → Act → World → Prop} {F : Nat → Prop} {L : Mem} {id : Nat} (hK : Kn F w0 w L) (Lr : Mem) [hm : Sub Lr L] (hf : P.follows .mixedOrders = true)
    (h : ∀ w', Kn F w0 w' L → Kn F w0 w' Lr → wpAnyH P .any ops Q (fun w' => Kn F w0 w' Lr) ops.size (Array.replicate ops.size false) a w') : (Code.region id ops true).wp P Q a w :=
  wp_region_held_drew (S := fun w' => Kn F w0 w' Lr) hf hK.drew.subs (h _ hK.drew)
/-- A part that is changed in its place. -/
def PutRet (F : Nat → Prop) (w0 : World) (L : Mem) (d : Nat) (t : Tr d) (p r : Value) : Ending → World → Prop := fun e w' => e = .returned r ∧ ∃ M', Rep d t p M' ∧ Kn F w0 w' (M' ++ L)
instance {k : Ky} : BSl Try.prog 75 1 [(0, .agg (U k.b).toArray)] 23 (U k.b) :=
  ⟨fun w => by have := bsl_dense (P := Try.prog) (T := 75) (e := 23) (size := 40) (bytes := 40) [.agg (U k.b).toArray] (by simp [Value.cells, k.len]) (by simp) (by simp) w; simpa [Value.cells] using this⟩
theorem icut_none {d : Nat} {t : Tr (d + 1)} {i : Nat} (hi : i < t.2.length) (h : cutT d t.2[i] = none) : icutT d t i = t := by
  unfold icutT; rw [List.getElem?_eq_getElem hi]; simp only; rw [h]
theorem icut_some {d : Nat} {t : Tr (d + 1)} {i : Nat} (hi : i < t.2.length) {a b : Tr d} {k : Ky} (h : cutT d t.2[i] = some (a, b, k)) : icutT d t i = (t.1.take i ++ k :: t.1.drop i, t.2.take i ++ a :: b :: t.2.drop (i + 1)) := by
  unfold icutT; rw [List.getElem?_eq_getElem hi]; simp only; rw [h]
set_option maxRecDepth 20000 in
set_option maxHeartbeats 1600000 in
theorem icut_c {F : Nat → Prop} {w0 w : World} {L M : Mem} {b d i : Nat} {t : Tr (d + 1)} (hK : Kn F w0 w (M ++ L)) (hR : Rep (d + 1) t (.iface 103 (.pointer (some ⟨b, 0, none⟩))) M) (hi : i < t.2.length) (ho : Ok d t.2[i]) (hkl : t.2.length = t.1.length + 1) (hn : t.2.length ≤ 60) :
    Calls Try.prog 65 #[.pointer (some ⟨b, 0, none⟩), .int .i64 i] w (PutRet F w0 L (d + 1) (icutT d t i) (.iface 103 (.pointer (some ⟨b, 0, none⟩))) (.tuple #[])) := by
  obtain ⟨res, hres⟩ : ∃ r, r = icutT d t i := ⟨_, rfl⟩
  rw [← hres]
  obtain ⟨b', vk, Mk, vp, Mp, ps, MM, hbb, hVk, hVp, hMM, rfl⟩ := hR
  cases hbb
  obtain ⟨ks, kids⟩ := t
  dsimp only at hVk hVp hMM hi ho hkl hn
  obtain ⟨gp, cp, jp, rfl, rfl, hxp, hcp, hnp, hmp⟩ := hVp.pos (by omega)
  obtain ⟨A, N, B, q, rfl, hq, hQ, hA, hB⟩ := hMM.at hi
  have hpl := hMM.len
  obtain ⟨T, bq, rfl⟩ := hQ.iface
  haveI hat : At (ps ++ jp) i (.iface T (.pointer (some ⟨bq, 0, none⟩))) := ⟨by rw [List.getElem?_append_left (by omega)]; exact hq⟩
  have hK1 : Kn F w0 w ((b, 106, [vk, .slice (some ⟨gp, 0, none⟩) kids.length cp]) :: (gp, 37, ps ++ jp) :: (N ++ (Mk ++ (A ++ (B ++ L))))) := (Kn.mv hK [] (fun f => by simp only [wt_append, wt_cons, wt_nil]; omega))
  clear hK
  have hK := hK1
  have HKL := Lib.hid hkl
  have HPL := Lib.hid hpl
  have hi' : (i : Int) < kids.length := by omega
  have HRES := Lib.hid hres
  clear hkl hpl hK1 hres
  cases hcut : cutT d kids[i] with
  | none =>
    go_enter Try.func65, Try.ntmps65
    go_wp2_with (first | ((with_reducible change wpList _ _ _ (_ :: _) _ _); first | ((with_reducible change wpList _ _ _ (Oper.mk _ (Op.load _ _) _ _ _ _ :: _) _ _); first | (refine KL_load1 hK (by rfl) _ _ rfl _ _ rfl ?_) | (refine KL_load hK (by rfl) _ _ rfl _ _ rfl ?_)) | ((with_reducible change wpList _ _ _ (Oper.mk _ (Op.store _ _ _) _ _ _ _ :: _) _ _); first | (refine KL_store1 hK (by rfl) _ _ _ rfl _ _ rfl _ (by conv => lhs; whnf) (by rfl) ?_; clear hK; intro w hK) | (refine KL_store hK (by rfl) _ _ _ rfl _ _ rfl _ rfl ?_; clear hK; intro w hK)) | ((with_reducible change wpList _ _ _ (Oper.mk _ (Op.alloc _) _ _ _ _ :: _) _ _); refine KL_alloc hK (by rfl) _ rfl ?_; clear hK; intro b w hK) | ((with_reducible change wpList _ _ _ (Oper.mk _ (Op.box _ _) _ _ _ _ :: _) _ _); refine KL_box hK (by rfl) _ _ rfl _ (by conv => lhs; whnf) ?_; clear hK; intro b w hK) | ((with_reducible change wpList _ _ _ (Oper.mk _ (Op.build _ _) _ _ _ _ :: _) _ _); first | (refine KL_build0 (by rfl) _ rfl ?_) | (refine KL_build1 (by rfl) _ _ _ rfl _ (by conv => lhs; whnf) ?_) | (refine KL_build2 (by rfl) _ _ _ _ _ rfl _ (by conv => lhs; whnf) _ (by conv => lhs; whnf) ?_) | (refine KL_build3 (by rfl) _ _ _ _ _ _ _ rfl _ (by conv => lhs; whnf) _ (by conv => lhs; whnf) _ (by conv => lhs; whnf) ?_) | (refine KL_build4 (by rfl) _ _ _ _ _ _ _ _ _ rfl _ (by conv => lhs; whnf) _ (by conv => lhs; whnf) _ (by conv => lhs; whnf) _ (by conv => lhs; whnf) ?_) | (refine KL_build5 (by rfl) _ _ _ _ _ _ _ _ _ _ _ rfl _ (by conv => lhs; whnf) _ (by conv => lhs; whnf) _ (by conv => lhs; whnf) _ (by conv => lhs; whnf) _ (by conv => lhs; whnf) ?_)) | ((with_reducible change wpList _ _ _ (Oper.mk _ (Op.binOp _ _ _ _ _) _ _ _ _ :: _) _ _); refine KL_cmp (by rfl) _ _ _ _ _ rfl _ _ rfl rfl ?_) | ((with_reducible change wpList _ _ _ (Oper.mk _ (Op.call _) _ _ _ _ :: _) _ _); refine KL_copy hK (by rfl) _ _ _ _ rfl _ _ _ _ _ _ _ _ rfl rfl _ _ (by first | exact Nat.min_eq_left (by first | decide | omega) | exact Nat.min_eq_right (by first | decide | omega)) (by first | exact Nat.mul_one _ | (conv => lhs; simp only [Nat.reduceMul])) ?_; clear hK; intro w hK) | ((with_reducible change wpList _ _ _ (Oper.mk _ (Op.index _ _ _) _ _ _ _ :: _) _ _); refine KL_index (by rfl) _ _ _ rfl _ rfl _ rfl _ (by conv => lhs; simp only [Int.reduceToNat, Int.toNat_natCast]) (by first | decide | omega) (by first | decide | omega) ?_) | ((with_reducible change wpList _ _ _ (Oper.mk _ (Op.sliceToArrayPointer _ _) _ _ _ _ :: _) _ _); refine KL_arr (by rfl) _ _ rfl _ _ _ rfl (by first | decide | omega) ?_)) | (go_at_call 45; refine (cut_c hK.up2 hQ ho).mono ?_; rintro e w1 hret; unfold CutRet at hret; rw [hcut] at hret; obtain ⟨rfl, hK'⟩ := hret; clear hK; have hK := hK'.dn2; clear hK'))
    go_end0
    obtain rfl : res = (ks, kids) := HRES.out.trans (icut_none (t := (ks, kids)) hi hcut)
    exact ⟨rfl, _, ⟨_, vk, Mk, _, [(gp, 37, ps ++ jp)], ps, A ++ (N ++ B), rfl, hVk, .row gp cp jp hxp hcp hnp hmp, hMM, rfl⟩, (Kn.mv (hK.tl rfl) [] (fun f => by simp only [wt_append, wt_cons, wt_nil]; omega))⟩
  | some abk =>
    obtain ⟨ta, tb, k⟩ := abk
    go_enter Try.func65, Try.ntmps65
    go_wp2_with (first | ((with_reducible change wpList _ _ _ (_ :: _) _ _); first | ((with_reducible change wpList _ _ _ (Oper.mk _ (Op.load _ _) _ _ _ _ :: _) _ _); first | (refine KL_load1 hK (by rfl) _ _ rfl _ _ rfl ?_) | (refine KL_load hK (by rfl) _ _ rfl _ _ rfl ?_)) | ((with_reducible change wpList _ _ _ (Oper.mk _ (Op.store _ _ _) _ _ _ _ :: _) _ _); first | (refine KL_store1 hK (by rfl) _ _ _ rfl _ _ rfl _ (by conv => lhs; whnf) (by rfl) ?_; clear hK; intro w hK) | (refine KL_store hK (by rfl) _ _ _ rfl _ _ rfl _ rfl ?_; clear hK; intro w hK)) | ((with_reducible change wpList _ _ _ (Oper.mk _ (Op.alloc _) _ _ _ _ :: _) _ _); refine KL_alloc hK (by rfl) _ rfl ?_; clear hK; intro b w hK) | ((with_reducible change wpList _ _ _ (Oper.mk _ (Op.box _ _) _ _ _ _ :: _) _ _); refine KL_box hK (by rfl) _ _ rfl _ (by conv => lhs; whnf) ?_; clear hK; intro b w hK) | ((with_reducible change wpList _ _ _ (Oper.mk _ (Op.build _ _) _ _ _ _ :: _) _ _); first | (refine KL_build0 (by rfl) _ rfl ?_) | (refine KL_build1 (by rfl) _ _ _ rfl _ (by conv => lhs; whnf) ?_) | (refine KL_build2 (by rfl) _ _ _ _ _ rfl _ (by conv => lhs; whnf) _ (by conv => lhs; whnf) ?_) | (refine KL_build3 (by rfl) _ _ _ _ _ _ _ rfl _ (by conv => lhs; whnf) _ (by conv => lhs; whnf) _ (by conv => lhs; whnf) ?_) | (refine KL_build4 (by rfl) _ _ _ _ _ _ _ _ _ rfl _ (by conv => lhs; whnf) _ (by conv => lhs; whnf) _ (by conv => lhs; whnf) _ (by conv => lhs; whnf) ?_) | (refine KL_build5 (by rfl) _ _ _ _ _ _ _ _ _ _ _ rfl _ (by conv => lhs; whnf) _ (by conv => lhs; whnf) _ (by conv => lhs; whnf) _ (by conv => lhs; whnf) _ (by conv => lhs; whnf) ?_)) | ((with_reducible change wpList _ _ _ (Oper.mk _ (Op.binOp _ _ _ _ _) _ _ _ _ :: _) _ _); refine KL_cmp (by rfl) _ _ _ _ _ rfl _ _ rfl rfl ?_) | ((with_reducible change wpList _ _ _ (Oper.mk _ (Op.call _) _ _ _ _ :: _) _ _); refine KL_copy hK (by rfl) _ _ _ _ rfl _ _ _ _ _ _ _ _ rfl rfl _ _ (by first | exact Nat.min_eq_left (by first | decide | omega) | exact Nat.min_eq_right (by first | decide | omega)) (by first | exact Nat.mul_one _ | (conv => lhs; simp only [Nat.reduceMul])) ?_; clear hK; intro w hK) | ((with_reducible change wpList _ _ _ (Oper.mk _ (Op.index _ _ _) _ _ _ _ :: _) _ _); refine KL_index (by rfl) _ _ _ rfl _ rfl _ rfl _ (by conv => lhs; simp only [Int.reduceToNat, Int.toNat_natCast]) (by first | decide | omega) (by first | decide | omega) ?_) | ((with_reducible change wpList _ _ _ (Oper.mk _ (Op.sliceToArrayPointer _ _) _ _ _ _ :: _) _ _); refine KL_arr (by rfl) _ _ rfl _ _ _ rfl (by first | decide | omega) ?_)) | (go_at_call 45; refine (cut_c hK.up2 hQ ho).mono ?_; rintro e w1 hret; unfold CutRet at hret; rw [hcut] at hret; obtain ⟨q, Na, Nb, rfl, ⟨Tq, uq, rfl⟩, hRa, hRb, hK'⟩ := hret; clear hK; have hK : Kn F w0 w1 ((b, 106, [vk, .slice (some ⟨gp, 0, none⟩) kids.length cp]) :: (gp, 37, ps ++ jp) :: (Mk ++ (Na ++ (Nb ++ (A ++ (B ++ L)))))) := (Kn.mv hK' [] (fun f => by simp only [wt_append, wt_cons, wt_nil]; omega)); clear hK'))
    have hone : ∀ u ∈ rows rK ks, u.oneCell' = true := rows_one rK_one ks
    have hik : i ≤ ks.length := by have := HKL.out; omega
    have hkn : ks.length ≤ 900000 := by have := HKL.out; omega
    obtain ⟨bk, rfl⟩ := hK.n0
    apply wp_meet3 hK
    case h =>
      (refine wp_region_sub hK [(bk, 23, U k.b)] (by kernel_rfl) ?_; (try clear hK); intro w hK hS)
      (refine KS_take 0 (by kernel_rfl) (by decide +kernel) (by decide +kernel) (by exact fun _ _ _ h => h) (by rfl) (by intro w hSw; go_simp; with_reducible rfl) hS ?_; (try simp only [Act.put, List.setIfInBounds_toArray, List.set_cons_zero, List.set_cons_succ])); (refine KS_take 1 (by kernel_rfl) (by decide +kernel) (by decide +kernel) (by exact fun _ _ _ h => h) (by rfl) (by intro w hSw; go_simp; with_reducible rfl) hS ?_; (try simp only [Act.put, List.setIfInBounds_toArray, List.set_cons_zero, List.set_cons_succ])); (refine KS_take 2 (by kernel_rfl) (by decide +kernel) (by decide +kernel) (by exact fun _ _ _ h => h) (by rfl) (by intro w hSw; go_simp; with_reducible rfl) hS ?_; (try simp only [Act.put, List.setIfInBounds_toArray, List.set_cons_zero, List.set_cons_succ])); (refine KS_take 3 (by kernel_rfl) (by decide +kernel) (by decide +kernel) (by exact fun _ _ _ h => h) (by rfl) (by intro w hSw; go_simp; with_reducible rfl) hS ?_; (try simp only [Act.put, List.setIfInBounds_toArray, List.set_cons_zero, List.set_cons_succ])); (refine KS_take 5 (by kernel_rfl) (by decide +kernel) (by decide +kernel) (by exact fun _ _ _ h => h) (by rfl) (by intro w hSw; go_simp; with_reducible rfl) hS ?_; (try simp only [Act.put, List.setIfInBounds_toArray, List.set_cons_zero, List.set_cons_succ]))
      (refine KS_take 6 (by kernel_rfl) (by decide +kernel) (by decide +kernel) (by exact fun _ _ _ h => h) (by rfl) (by first | exact KS_load1 _ _ rfl _ _ rfl | exact KS_load _ _ rfl _ _ rfl) hS ?_; (try simp only [Act.put, List.setIfInBounds_toArray, List.set_cons_zero, List.set_cons_succ]))
      refine KS_two 4 7 (by decide +kernel) (by rfl) (by rfl) (fun K hk => ?_) (fun K hk => ?_)
      · refine KO_load1 hK _ _ rfl _ _ rfl ?_
        (refine hk.out _ _ hK.subs (fun hS => ?_); clear hk K; (try simp only [Act.put, List.setIfInBounds_toArray, List.set_cons_zero, List.set_cons_succ]))
        (refine KS_one 7 (by decide +kernel) (by rfl) (fun K hk => ?_); (refine KO_buildSlice hK _ _ _ rfl [(0, .agg (U k.b).toArray)] rfl ?_; (try clear hK); intro bv w hK); (refine hk.out _ _ hK.subs (fun hS => ?_); clear hk K; (try simp only [Act.put, List.setIfInBounds_toArray, List.set_cons_zero, List.set_cons_succ])))
        (refine KS_one 8 (by decide +kernel) (by rfl) (fun K hk => ?_); (go_simp; (go_at_call 97; refine (insK_c (M := Mk) hK.up4 hVk hik hkn (by rw [U_length, k.len]) hone (U_one _)).mono ?_; rintro e w1 ⟨v', M', rfl, hS', hK'⟩; (try clear hK); have hK := hK'.dn4; clear hK'; dsimp only)); (refine hk.out _ _ hK.subs (fun hS => ?_); clear hk K; (try simp only [Act.put, List.setIfInBounds_toArray, List.set_cons_zero, List.set_cons_succ])))
        (refine KS_take 9 (by kernel_rfl) (by decide +kernel) (by decide +kernel) (by exact fun _ _ _ h => h) (by rfl) (by intro w hSw; go_simp; with_reducible rfl) hS ?_; (try simp only [Act.put, List.setIfInBounds_toArray, List.set_cons_zero, List.set_cons_succ])); (refine KS_take 10 (by kernel_rfl) (by decide +kernel) (by decide +kernel) (by exact fun _ _ _ h => h) (by rfl) (by intro w hSw; go_simp; with_reducible rfl) hS ?_; (try simp only [Act.put, List.setIfInBounds_toArray, List.set_cons_zero, List.set_cons_succ]))
        (refine KS_one 11 (by decide +kernel) (by rfl) (fun K hk => ?_); (refine KO_store1 hK _ _ _ rfl _ _ rfl _ (by conv => lhs; whnf) hS'.one ?_; (try clear hK); intro w hK); (refine hk.out _ _ hK.subs (fun hS => ?_); clear hk K; (try simp only [Act.put, List.setIfInBounds_toArray, List.set_cons_zero, List.set_cons_succ])))
        (refine wpAnyH_done (by kernel_rfl) ?_ _)
        exact ⟨bv, v', M', rfl, hS', hK⟩
      · refine KO_buildSlice hK _ _ _ rfl [(0, .agg (U k.b).toArray)] rfl ?_; (try clear hK); intro bv w hK
        (refine hk.out _ _ hK.subs (fun hS => ?_); clear hk K; (try simp only [Act.put, List.setIfInBounds_toArray, List.set_cons_zero, List.set_cons_succ]))
        (refine KS_one 4 (by decide +kernel) (by rfl) (fun K hk => ?_); (refine KO_load1 hK _ _ rfl _ _ rfl ?_); (refine hk.out _ _ hK.subs (fun hS => ?_); clear hk K; (try simp only [Act.put, List.setIfInBounds_toArray, List.set_cons_zero, List.set_cons_succ])))
        (refine KS_one 8 (by decide +kernel) (by rfl) (fun K hk => ?_); (go_simp; (go_at_call 97; refine (insK_c (M := Mk) hK.up4 hVk hik hkn (by rw [U_length, k.len]) hone (U_one _)).mono ?_; rintro e w1 ⟨v', M', rfl, hS', hK'⟩; (try clear hK); have hK := hK'.dn4; clear hK'; dsimp only)); (refine hk.out _ _ hK.subs (fun hS => ?_); clear hk K; (try simp only [Act.put, List.setIfInBounds_toArray, List.set_cons_zero, List.set_cons_succ])))
        (refine KS_take 9 (by kernel_rfl) (by decide +kernel) (by decide +kernel) (by exact fun _ _ _ h => h) (by rfl) (by intro w hSw; go_simp; with_reducible rfl) hS ?_; (try simp only [Act.put, List.setIfInBounds_toArray, List.set_cons_zero, List.set_cons_succ])); (refine KS_take 10 (by kernel_rfl) (by decide +kernel) (by decide +kernel) (by exact fun _ _ _ h => h) (by rfl) (by intro w hSw; go_simp; with_reducible rfl) hS ?_; (try simp only [Act.put, List.setIfInBounds_toArray, List.set_cons_zero, List.set_cons_succ]))
        (refine KS_one 11 (by decide +kernel) (by rfl) (fun K hk => ?_); (refine KO_store1 hK _ _ _ rfl _ _ rfl _ (by conv => lhs; whnf) hS'.one ?_; (try clear hK); intro w hK); (refine hk.out _ _ hK.subs (fun hS => ?_); clear hk K; (try simp only [Act.put, List.setIfInBounds_toArray, List.set_cons_zero, List.set_cons_succ])))
        (refine wpAnyH_done (by kernel_rfl) ?_ _)
        exact ⟨bv, v', M', rfl, hS', hK⟩
    case k =>
      clear hK
      intro bv vk' Mk' w hS' hK
      have hw : IntKind.i64.wrap ((i : Int) + 1) = (i : Int) + 1 := by rw [IntKind.wrap_i64]; omega
      have honeP := hMM.one
      have hii : i + 1 ≤ kids.length := hi
      have hkn2 : kids.length ≤ 900000 := by omega
      go_wp2_with (first | ((with_reducible change wpList _ _ _ (_ :: _) _ _); first | ((with_reducible change wpList _ _ _ (Oper.mk _ (Op.load _ _) _ _ _ _ :: _) _ _); first | (refine KL_load1 hK (by rfl) _ _ rfl _ _ rfl ?_) | (refine KL_load hK (by rfl) _ _ rfl _ _ rfl ?_)) | ((with_reducible change wpList _ _ _ (Oper.mk _ (Op.store _ _ _) _ _ _ _ :: _) _ _); first | (refine KL_store1 hK (by rfl) _ _ _ rfl _ _ rfl _ (by conv => lhs; whnf) (by rfl) ?_; clear hK; intro w hK) | (refine KL_store hK (by rfl) _ _ _ rfl _ _ rfl _ rfl ?_; clear hK; intro w hK)) | ((with_reducible change wpList _ _ _ (Oper.mk _ (Op.alloc _) _ _ _ _ :: _) _ _); refine KL_alloc hK (by rfl) _ rfl ?_; clear hK; intro b w hK) | ((with_reducible change wpList _ _ _ (Oper.mk _ (Op.box _ _) _ _ _ _ :: _) _ _); refine KL_box hK (by rfl) _ _ rfl _ (by conv => lhs; whnf) ?_; clear hK; intro b w hK) | ((with_reducible change wpList _ _ _ (Oper.mk _ (Op.build _ _) _ _ _ _ :: _) _ _); first | (refine KL_build0 (by rfl) _ rfl ?_) | (refine KL_build1 (by rfl) _ _ _ rfl _ (by conv => lhs; whnf) ?_) | (refine KL_build2 (by rfl) _ _ _ _ _ rfl _ (by conv => lhs; whnf) _ (by conv => lhs; whnf) ?_) | (refine KL_build3 (by rfl) _ _ _ _ _ _ _ rfl _ (by conv => lhs; whnf) _ (by conv => lhs; whnf) _ (by conv => lhs; whnf) ?_) | (refine KL_build4 (by rfl) _ _ _ _ _ _ _ _ _ rfl _ (by conv => lhs; whnf) _ (by conv => lhs; whnf) _ (by conv => lhs; whnf) _ (by conv => lhs; whnf) ?_) | (refine KL_build5 (by rfl) _ _ _ _ _ _ _ _ _ _ _ rfl _ (by conv => lhs; whnf) _ (by conv => lhs; whnf) _ (by conv => lhs; whnf) _ (by conv => lhs; whnf) _ (by conv => lhs; whnf) ?_)) | ((with_reducible change wpList _ _ _ (Oper.mk _ (Op.binOp _ _ _ _ _) _ _ _ _ :: _) _ _); refine KL_cmp (by rfl) _ _ _ _ _ rfl _ _ rfl rfl ?_) | ((with_reducible change wpList _ _ _ (Oper.mk _ (Op.call _) _ _ _ _ :: _) _ _); refine KL_copy hK (by rfl) _ _ _ _ rfl _ _ _ _ _ _ _ _ rfl rfl _ _ (by first | exact Nat.min_eq_left (by first | decide | omega) | exact Nat.min_eq_right (by first | decide | omega)) (by first | exact Nat.mul_one _ | (conv => lhs; simp only [Nat.reduceMul])) ?_; clear hK; intro w hK) | ((with_reducible change wpList _ _ _ (Oper.mk _ (Op.index _ _ _) _ _ _ _ :: _) _ _); refine KL_index (by rfl) _ _ _ rfl _ rfl _ rfl _ (by conv => lhs; simp only [Int.reduceToNat, Int.toNat_natCast]) (by first | decide | omega) (by first | decide | omega) ?_) | ((with_reducible change wpList _ _ _ (Oper.mk _ (Op.sliceToArrayPointer _ _) _ _ _ _ :: _) _ _); refine KL_arr (by rfl) _ _ rfl _ _ _ rfl (by first | decide | omega) ?_)) | (((with_reducible change wpList _ _ _ (Oper.mk _ (Op.buildSlice _ _ _) _ _ _ _ :: _) _ _); first | (refine KL_bs1 hK (by rfl) _ _ _ rfl _ (by conv => lhs; whnf) ?_; clear hK; intro b w hK) | (refine KL_bs2 hK (by rfl) _ _ _ _ _ rfl _ _ (by conv => lhs; whnf) (by conv => lhs; whnf) ?_; clear hK; intro b w hK))) | (go_at_call 98; refine (insP_c (M := [(gp, 37, ps ++ jp)]) (i := i + 1) (Kn.swap (M1 := [_, _, _, _]) (M2 := [_]) hK) hVp hii hkn2 rfl honeP (by intro u hu; rw [List.mem_singleton] at hu; rw [hu]; rfl)).mono ?_; rintro e w1 ⟨v', M', rfl, hSp, hK'⟩; clear hK; have hK : Kn F w0 w1 (_ :: _ :: _ :: _ :: (M' ++ (Mk' ++ (Na ++ (Nb ++ (A ++ (B ++ L))))))) := Kn.swap (M1 := M') (M2 := [_, _, _, _]) hK'; clear hK') | ((with_reducible change wpList _ _ _ (Oper.mk _ (Op.store _ _ _) _ _ _ _ :: _) _ _); refine KL_store1 hK (by rfl) _ _ _ rfl _ _ rfl _ (by conv => lhs; whnf) (Sl.one (by assumption)) ?_; clear hK; intro w hK))
      go_end0
      have hres := HRES.out.trans (icut_some (t := (ks, kids)) hi hcut)
      obtain rfl : res = (ks.take i ++ k :: ks.drop i, kids.take i ++ ta :: tb :: kids.drop (i + 1)) := hres
      have hkl := HKL.out
      have hpl := HPL.out
      have e1 := rows_ins rK_len ks i k
      rw [rK] at e1
      rw [e1] at hS'
      have e2 : ps.take (i + 1) ++ ([Value.iface Tq uq] ++ ps.drop (i + 1)) = ps.take i ++ (.iface T (.pointer (some ⟨bq, 0, none⟩)) :: .iface Tq uq :: ps.drop (i + 1)) := by
        rw [List.take_add_one, hq]; simp
      rw [e2] at hSp
      have l1 : (ks.take i ++ k :: ks.drop i).length = ks.length + 1 := by simp; omega
      have l2 : (kids.take i ++ ta :: tb :: kids.drop (i + 1)).length = kids.length + 1 := by simp; omega
      replace hK := hK.sub (.cons _ (.cons _ (.cons _ (.refl _))))
      exact ⟨rfl, _, ⟨_, vk', Mk', _, M', _, A ++ (Na ++ (Nb ++ B)), rfl, hS'.cg l1.symm rfl, hSp.cg l2.symm rfl, hA.app (.cons hRa (.cons hRb hB)), rfl⟩, (Kn.mv hK [] (fun f => by simp only [wt_append, wt_cons, wt_nil]; omega))⟩
end Go.Proofs.Ytpkhomfblilkhaa.E
