/- inner.mend walked. -/
import Derived.Test.YtpkhomfblilkhaaF16
namespace Go.Proofs.Ytpkhomfblilkhaa.E
set_option linter.all false
open Go Go.RowKit

theorem mend_no {d : Nat} {t : Tr (d + 1)} {i : Nat} (hi : i < t.2.length) (h : least d ≤ sz d t.2[i] ∨ t.2.length < 2) : mendT d t i = t := by
  unfold mendT; rw [List.getElem?_eq_getElem hi]; simp only; rw [if_pos h]
theorem mend_yes {d : Nat} {t : Tr (d + 1)} {i j : Nat} (hi : i < t.2.length) (h : ¬ (least d ≤ sz d t.2[i] ∨ t.2.length < 2)) (hj : j = i - 1) (h1 : j + 1 < t.2.length) (h2 : j < t.1.length) :
    mendT d t i = icutT d (t.1.take j ++ t.1.drop (j + 1), t.2.take j ++ joinT d t.2[j] t.2[j + 1] t.1[j] :: t.2.drop (j + 2)) j := by
  unfold mendT; rw [List.getElem?_eq_getElem hi]; simp only; rw [if_neg h, ← hj, List.getElem?_eq_getElem (by omega), List.getElem?_eq_getElem h1, List.getElem?_eq_getElem h2]
/-- Is a part little? The contract of its method, whichever it is. -/
def LitRet (F : Nat → Prop) (w0 : World) (L : Mem) (n : Nat) (d : Nat) : Ending → World → Prop := fun r w' => r = .returned (.bool (decide ((n : Int) < (least d : Nat)))) ∧ Kn F w0 w' L
theorem llit_r {F : Nat → Prop} {w0 w : World} {L M : Mem} {b T : Nat} {es : Tr 0} (hR : Rep 0 es (.iface T (.pointer (some ⟨b, 0, none⟩))) M) (hK : Kn F w0 w (M ++ L)) :
    Calls Try.prog 78 #[.pointer (some ⟨b, 0, none⟩)] w (LitRet F w0 (M ++ L) (sz 0 es) 0) := by
  obtain ⟨b', v, Mv, hb, hV, rfl⟩ := hR
  cases hb
  exact llittle_c hK hV
theorem ilit_r {F : Nat → Prop} {w0 w : World} {L M : Mem} {b T d : Nat} {t : Tr (d + 1)} (hR : Rep (d + 1) t (.iface T (.pointer (some ⟨b, 0, none⟩))) M) (hK : Kn F w0 w (M ++ L)) :
    Calls Try.prog 82 #[.pointer (some ⟨b, 0, none⟩)] w (LitRet F w0 (M ++ L) (sz (d + 1) t) (d + 1)) := by
  obtain ⟨b', vk, Mk, vp, Mp, ps, MM, hb, hVk, hVp, hMM, rfl⟩ := hR
  cases hb
  exact ilittle_c hK hVp
/-- Memory ahead of and behind a join. -/
theorem Kn.jn {F : Nat → Prop} {w0 w : World} {x y z : Nat × TypeId × List Value} {Na Nb A B L : Mem} (h : Kn F w0 w (x :: y :: z :: (A ++ (Na ++ (Nb ++ (B ++ L)))))) : Kn F w0 w (Na ++ (Nb ++ (x :: y :: z :: (A ++ (B ++ L))))) := (Kn.mv h [] (fun f => by simp only [wt_append, wt_cons, wt_nil]; omega))
theorem Kn.jn' {F : Nat → Prop} {w0 w : World} {x y z : Nat × TypeId × List Value} {Nc A B L : Mem} (h : Kn F w0 w (Nc ++ (x :: y :: z :: (A ++ (B ++ L))))) : Kn F w0 w (x :: y :: z :: (A ++ (Nc ++ (B ++ L)))) := (Kn.mv h [] (fun f => by simp only [wt_append, wt_cons, wt_nil]; omega))
theorem rows_at {ks : List Ky} {junk : List Value} {j : Nat} (hx : (rows rK ks).length = ks.length * 40) (h : j < ks.length) : Part (rows rK ks ++ junk) (j * 40) 40 (U ks[j].b) := by
  refine ⟨?_, by rw [List.length_append, hx]; omega⟩
  rw [List.drop_append_of_le_length (by omega), List.take_append_of_le_length (by rw [List.length_drop]; omega)]
  exact rows_part rK_len ks h
set_option maxRecDepth 20000 in
set_option maxHeartbeats 3200000 in
/-- The kid has enough, or is the only one. -/
theorem mend0_c {F : Nat → Prop} {w0 w : World} {L M : Mem} {b d i : Nat} {t : Tr (d + 1)} (hK : Kn F w0 w (M ++ L)) (hR : Rep (d + 1) t (.iface 103 (.pointer (some ⟨b, 0, none⟩))) M) (hi : i < t.2.length) (hc : least d ≤ sz d t.2[i] ∨ t.2.length < 2) :
    Calls Try.prog 70 #[.pointer (some ⟨b, 0, none⟩), .int .i64 i] w (PutRet F w0 L (d + 1) (mendT d t i) (.iface 103 (.pointer (some ⟨b, 0, none⟩))) (.tuple #[])) := by
  rw [mend_no hi hc]
  obtain ⟨b', vk, Mk, vp, Mp, ps, MM, hbb, hVk, hVp, hMM, rfl⟩ := hR
  cases hbb
  obtain ⟨ks, kids⟩ := t
  dsimp only at hVk hVp hMM hi hc
  obtain ⟨gp, cp, jp, rfl, rfl, hxp, hcp, hnp, hmp⟩ := hVp.pos (by omega)
  obtain ⟨A, N, B, q, rfl, hq, hQ, hA, hB⟩ := hMM.at hi
  have hpl := hMM.len
  obtain ⟨T, bq, rfl⟩ := hQ.iface
  obtain ⟨u, hu⟩ : ∃ u, u = kids[i] := ⟨_, rfl⟩
  rw [← hu] at hQ hc
  haveI hat : At (ps ++ jp) i (.iface T (.pointer (some ⟨bq, 0, none⟩))) := ⟨by rw [List.getElem?_append_left (by omega)]; exact hq⟩
  have hRep : Rep (d + 1) (ks, kids) (.iface 103 (.pointer (some ⟨b, 0, none⟩))) ((b, 106, [vk, .slice (some ⟨gp, 0, none⟩) kids.length cp]) :: (Mk ++ ([(gp, 37, ps ++ jp)] ++ (A ++ (N ++ B))))) :=
    ⟨b, vk, Mk, _, [(gp, 37, ps ++ jp)], ps, A ++ (N ++ B), rfl, hVk, .row gp cp jp hxp hcp hnp hmp, hMM, rfl⟩
  have hK1 : Kn F w0 w ((b, 106, [vk, .slice (some ⟨gp, 0, none⟩) kids.length cp]) :: (gp, 37, ps ++ jp) :: (N ++ (Mk ++ (A ++ (B ++ L))))) := (Kn.mv hK [] (fun f => by simp only [wt_append, wt_cons, wt_nil]; omega))
  have hback : ∀ w', Kn F w0 w' ((b, 106, [vk, .slice (some ⟨gp, 0, none⟩) kids.length cp]) :: (gp, 37, ps ++ jp) :: (N ++ (Mk ++ (A ++ (B ++ L))))) → PutRet F w0 L (d + 1) (ks, kids) (.iface 103 (.pointer (some ⟨b, 0, none⟩))) (.tuple #[]) (.returned (.tuple #[])) w' := fun w' h => ⟨rfl, _, hRep, (Kn.mv h [] (fun f => by simp only [wt_append, wt_cons, wt_nil]; omega))⟩
  have HB := Lib.hid hback
  have HPL := Lib.hid hpl
  have hi' : (i : Int) < kids.length := by omega
  clear hK hback hpl hRep hu
  have hK := hK1
  clear hK1
  cases d with
  | zero =>
    have hT : T = 109 := by obtain ⟨b', v, Mv, hb, hV, rfl⟩ := hQ; cases hb; rfl
    subst hT
    have hL : ∀ w, Kn F w0 w ((b, 106, [vk, .slice (some ⟨gp, 0, none⟩) kids.length cp]) :: (gp, 37, ps ++ jp) :: (N ++ (Mk ++ (A ++ (B ++ L))))) → Calls Try.prog 78 #[.pointer (some ⟨bq, 0, none⟩)] w (LitRet F w0 ((b, 106, [vk, .slice (some ⟨gp, 0, none⟩) kids.length cp]) :: (gp, 37, ps ++ jp) :: (N ++ (Mk ++ (A ++ (B ++ L))))) (sz 0 u) 0) := fun w h => by
      refine (llit_r hQ h.up2).mono ?_
      rintro r w' ⟨rfl, h'⟩
      exact ⟨rfl, h'.dn2⟩
    have HL := Lib.hid hL
    clear hL
    by_cases hlt : ((sz 0 u : Nat) : Int) < (least 0 : Nat)
    · have hc2 : (kids.length : Int) < 2 := by omega
      clear hc
      go_enter Try.func70, Try.ntmps70
      go_wp2_with (first | ((with_reducible change wpList _ _ _ (_ :: _) _ _); first | ((with_reducible change wpList _ _ _ (Oper.mk _ (Op.load _ _) _ _ _ _ :: _) _ _); first | (refine KL_load1 hK (by rfl) _ _ rfl _ _ rfl ?_) | (refine KL_load hK (by rfl) _ _ rfl _ _ rfl ?_)) | ((with_reducible change wpList _ _ _ (Oper.mk _ (Op.store _ _ _) _ _ _ _ :: _) _ _); first | (refine KL_store1 hK (by rfl) _ _ _ rfl _ _ rfl _ (by conv => lhs; whnf) (by rfl) ?_; clear hK; intro w hK) | (refine KL_store hK (by rfl) _ _ _ rfl _ _ rfl _ rfl ?_; clear hK; intro w hK)) | ((with_reducible change wpList _ _ _ (Oper.mk _ (Op.alloc _) _ _ _ _ :: _) _ _); refine KL_alloc hK (by rfl) _ rfl ?_; clear hK; intro b w hK) | ((with_reducible change wpList _ _ _ (Oper.mk _ (Op.box _ _) _ _ _ _ :: _) _ _); refine KL_box hK (by rfl) _ _ rfl _ (by conv => lhs; whnf) ?_; clear hK; intro b w hK) | ((with_reducible change wpList _ _ _ (Oper.mk _ (Op.build _ _) _ _ _ _ :: _) _ _); first | (refine KL_build0 (by rfl) _ rfl ?_) | (refine KL_build1 (by rfl) _ _ _ rfl _ (by conv => lhs; whnf) ?_) | (refine KL_build2 (by rfl) _ _ _ _ _ rfl _ (by conv => lhs; whnf) _ (by conv => lhs; whnf) ?_) | (refine KL_build3 (by rfl) _ _ _ _ _ _ _ rfl _ (by conv => lhs; whnf) _ (by conv => lhs; whnf) _ (by conv => lhs; whnf) ?_) | (refine KL_build4 (by rfl) _ _ _ _ _ _ _ _ _ rfl _ (by conv => lhs; whnf) _ (by conv => lhs; whnf) _ (by conv => lhs; whnf) _ (by conv => lhs; whnf) ?_) | (refine KL_build5 (by rfl) _ _ _ _ _ _ _ _ _ _ _ rfl _ (by conv => lhs; whnf) _ (by conv => lhs; whnf) _ (by conv => lhs; whnf) _ (by conv => lhs; whnf) _ (by conv => lhs; whnf) ?_)) | ((with_reducible change wpList _ _ _ (Oper.mk _ (Op.binOp _ _ _ _ _) _ _ _ _ :: _) _ _); refine KL_cmp (by rfl) _ _ _ _ _ rfl _ _ rfl rfl ?_) | ((with_reducible change wpList _ _ _ (Oper.mk _ (Op.call _) _ _ _ _ :: _) _ _); refine KL_copy hK (by rfl) _ _ _ _ rfl _ _ _ _ _ _ _ _ rfl rfl _ _ (by first | exact Nat.min_eq_left (by first | decide | omega) | exact Nat.min_eq_right (by first | decide | omega)) (by first | exact Nat.mul_one _ | (conv => lhs; simp only [Nat.reduceMul])) ?_; clear hK; intro w hK) | ((with_reducible change wpList _ _ _ (Oper.mk _ (Op.index _ _ _) _ _ _ _ :: _) _ _); refine KL_index (by rfl) _ _ _ rfl _ rfl _ rfl _ (by conv => lhs; simp only [Int.reduceToNat, Int.toNat_natCast]) (by first | decide | omega) (by first | decide | omega) ?_) | ((with_reducible change wpList _ _ _ (Oper.mk _ (Op.sliceToArrayPointer _ _) _ _ _ _ :: _) _ _); refine KL_arr (by rfl) _ _ rfl _ _ _ rfl (by first | decide | omega) ?_)) | (go_at_call 78; refine (HL.out _ hK).mono ?_; rintro r w1 ⟨rfl, hK'⟩; clear hK; have hK := hK'; clear hK'))
      go_end0
      exact HB.out _ hK
    · clear hc
      go_enter Try.func70, Try.ntmps70
      go_wp2_with (first | ((with_reducible change wpList _ _ _ (_ :: _) _ _); first | ((with_reducible change wpList _ _ _ (Oper.mk _ (Op.load _ _) _ _ _ _ :: _) _ _); first | (refine KL_load1 hK (by rfl) _ _ rfl _ _ rfl ?_) | (refine KL_load hK (by rfl) _ _ rfl _ _ rfl ?_)) | ((with_reducible change wpList _ _ _ (Oper.mk _ (Op.store _ _ _) _ _ _ _ :: _) _ _); first | (refine KL_store1 hK (by rfl) _ _ _ rfl _ _ rfl _ (by conv => lhs; whnf) (by rfl) ?_; clear hK; intro w hK) | (refine KL_store hK (by rfl) _ _ _ rfl _ _ rfl _ rfl ?_; clear hK; intro w hK)) | ((with_reducible change wpList _ _ _ (Oper.mk _ (Op.alloc _) _ _ _ _ :: _) _ _); refine KL_alloc hK (by rfl) _ rfl ?_; clear hK; intro b w hK) | ((with_reducible change wpList _ _ _ (Oper.mk _ (Op.box _ _) _ _ _ _ :: _) _ _); refine KL_box hK (by rfl) _ _ rfl _ (by conv => lhs; whnf) ?_; clear hK; intro b w hK) | ((with_reducible change wpList _ _ _ (Oper.mk _ (Op.build _ _) _ _ _ _ :: _) _ _); first | (refine KL_build0 (by rfl) _ rfl ?_) | (refine KL_build1 (by rfl) _ _ _ rfl _ (by conv => lhs; whnf) ?_) | (refine KL_build2 (by rfl) _ _ _ _ _ rfl _ (by conv => lhs; whnf) _ (by conv => lhs; whnf) ?_) | (refine KL_build3 (by rfl) _ _ _ _ _ _ _ rfl _ (by conv => lhs; whnf) _ (by conv => lhs; whnf) _ (by conv => lhs; whnf) ?_) | (refine KL_build4 (by rfl) _ _ _ _ _ _ _ _ _ rfl _ (by conv => lhs; whnf) _ (by conv => lhs; whnf) _ (by conv => lhs; whnf) _ (by conv => lhs; whnf) ?_) | (refine KL_build5 (by rfl) _ _ _ _ _ _ _ _ _ _ _ rfl _ (by conv => lhs; whnf) _ (by conv => lhs; whnf) _ (by conv => lhs; whnf) _ (by conv => lhs; whnf) _ (by conv => lhs; whnf) ?_)) | ((with_reducible change wpList _ _ _ (Oper.mk _ (Op.binOp _ _ _ _ _) _ _ _ _ :: _) _ _); refine KL_cmp (by rfl) _ _ _ _ _ rfl _ _ rfl rfl ?_) | ((with_reducible change wpList _ _ _ (Oper.mk _ (Op.call _) _ _ _ _ :: _) _ _); refine KL_copy hK (by rfl) _ _ _ _ rfl _ _ _ _ _ _ _ _ rfl rfl _ _ (by first | exact Nat.min_eq_left (by first | decide | omega) | exact Nat.min_eq_right (by first | decide | omega)) (by first | exact Nat.mul_one _ | (conv => lhs; simp only [Nat.reduceMul])) ?_; clear hK; intro w hK) | ((with_reducible change wpList _ _ _ (Oper.mk _ (Op.index _ _ _) _ _ _ _ :: _) _ _); refine KL_index (by rfl) _ _ _ rfl _ rfl _ rfl _ (by conv => lhs; simp only [Int.reduceToNat, Int.toNat_natCast]) (by first | decide | omega) (by first | decide | omega) ?_) | ((with_reducible change wpList _ _ _ (Oper.mk _ (Op.sliceToArrayPointer _ _) _ _ _ _ :: _) _ _); refine KL_arr (by rfl) _ _ rfl _ _ _ rfl (by first | decide | omega) ?_)) | (go_at_call 78; refine (HL.out _ hK).mono ?_; rintro r w1 ⟨rfl, hK'⟩; clear hK; have hK := hK'; clear hK'))
      go_end0
      exact HB.out _ hK
  | succ d =>
    have hT : T = 103 := by obtain ⟨b', vk, Mk, vp, Mp, ps, MM, hb, hVk, hVp, hMM, rfl⟩ := hQ; cases hb; rfl
    subst hT
    have hL : ∀ w, Kn F w0 w ((b, 106, [vk, .slice (some ⟨gp, 0, none⟩) kids.length cp]) :: (gp, 37, ps ++ jp) :: (N ++ (Mk ++ (A ++ (B ++ L))))) → Calls Try.prog 82 #[.pointer (some ⟨bq, 0, none⟩)] w (LitRet F w0 ((b, 106, [vk, .slice (some ⟨gp, 0, none⟩) kids.length cp]) :: (gp, 37, ps ++ jp) :: (N ++ (Mk ++ (A ++ (B ++ L))))) (sz (d + 1) u) (d + 1)) := fun w h => by
      refine (ilit_r hQ h.up2).mono ?_
      rintro r w' ⟨rfl, h'⟩
      exact ⟨rfl, h'.dn2⟩
    have HL := Lib.hid hL
    clear hL
    by_cases hlt : ((sz (d + 1) u : Nat) : Int) < (least (d + 1) : Nat)
    · have hc2 : (kids.length : Int) < 2 := by omega
      clear hc
      go_enter Try.func70, Try.ntmps70
      go_wp2_with (first | ((with_reducible change wpList _ _ _ (_ :: _) _ _); first | ((with_reducible change wpList _ _ _ (Oper.mk _ (Op.load _ _) _ _ _ _ :: _) _ _); first | (refine KL_load1 hK (by rfl) _ _ rfl _ _ rfl ?_) | (refine KL_load hK (by rfl) _ _ rfl _ _ rfl ?_)) | ((with_reducible change wpList _ _ _ (Oper.mk _ (Op.store _ _ _) _ _ _ _ :: _) _ _); first | (refine KL_store1 hK (by rfl) _ _ _ rfl _ _ rfl _ (by conv => lhs; whnf) (by rfl) ?_; clear hK; intro w hK) | (refine KL_store hK (by rfl) _ _ _ rfl _ _ rfl _ rfl ?_; clear hK; intro w hK)) | ((with_reducible change wpList _ _ _ (Oper.mk _ (Op.alloc _) _ _ _ _ :: _) _ _); refine KL_alloc hK (by rfl) _ rfl ?_; clear hK; intro b w hK) | ((with_reducible change wpList _ _ _ (Oper.mk _ (Op.box _ _) _ _ _ _ :: _) _ _); refine KL_box hK (by rfl) _ _ rfl _ (by conv => lhs; whnf) ?_; clear hK; intro b w hK) | ((with_reducible change wpList _ _ _ (Oper.mk _ (Op.build _ _) _ _ _ _ :: _) _ _); first | (refine KL_build0 (by rfl) _ rfl ?_) | (refine KL_build1 (by rfl) _ _ _ rfl _ (by conv => lhs; whnf) ?_) | (refine KL_build2 (by rfl) _ _ _ _ _ rfl _ (by conv => lhs; whnf) _ (by conv => lhs; whnf) ?_) | (refine KL_build3 (by rfl) _ _ _ _ _ _ _ rfl _ (by conv => lhs; whnf) _ (by conv => lhs; whnf) _ (by conv => lhs; whnf) ?_) | (refine KL_build4 (by rfl) _ _ _ _ _ _ _ _ _ rfl _ (by conv => lhs; whnf) _ (by conv => lhs; whnf) _ (by conv => lhs; whnf) _ (by conv => lhs; whnf) ?_) | (refine KL_build5 (by rfl) _ _ _ _ _ _ _ _ _ _ _ rfl _ (by conv => lhs; whnf) _ (by conv => lhs; whnf) _ (by conv => lhs; whnf) _ (by conv => lhs; whnf) _ (by conv => lhs; whnf) ?_)) | ((with_reducible change wpList _ _ _ (Oper.mk _ (Op.binOp _ _ _ _ _) _ _ _ _ :: _) _ _); refine KL_cmp (by rfl) _ _ _ _ _ rfl _ _ rfl rfl ?_) | ((with_reducible change wpList _ _ _ (Oper.mk _ (Op.call _) _ _ _ _ :: _) _ _); refine KL_copy hK (by rfl) _ _ _ _ rfl _ _ _ _ _ _ _ _ rfl rfl _ _ (by first | exact Nat.min_eq_left (by first | decide | omega) | exact Nat.min_eq_right (by first | decide | omega)) (by first | exact Nat.mul_one _ | (conv => lhs; simp only [Nat.reduceMul])) ?_; clear hK; intro w hK) | ((with_reducible change wpList _ _ _ (Oper.mk _ (Op.index _ _ _) _ _ _ _ :: _) _ _); refine KL_index (by rfl) _ _ _ rfl _ rfl _ rfl _ (by conv => lhs; simp only [Int.reduceToNat, Int.toNat_natCast]) (by first | decide | omega) (by first | decide | omega) ?_) | ((with_reducible change wpList _ _ _ (Oper.mk _ (Op.sliceToArrayPointer _ _) _ _ _ _ :: _) _ _); refine KL_arr (by rfl) _ _ rfl _ _ _ rfl (by first | decide | omega) ?_)) | (go_at_call 82; refine (HL.out _ hK).mono ?_; rintro r w1 ⟨rfl, hK'⟩; clear hK; have hK := hK'; clear hK'))
      go_end0
      exact HB.out _ hK
    · clear hc
      go_enter Try.func70, Try.ntmps70
      go_wp2_with (first | ((with_reducible change wpList _ _ _ (_ :: _) _ _); first | ((with_reducible change wpList _ _ _ (Oper.mk _ (Op.load _ _) _ _ _ _ :: _) _ _); first | (refine KL_load1 hK (by rfl) _ _ rfl _ _ rfl ?_) | (refine KL_load hK (by rfl) _ _ rfl _ _ rfl ?_)) | ((with_reducible change wpList _ _ _ (Oper.mk _ (Op.store _ _ _) _ _ _ _ :: _) _ _); first | (refine KL_store1 hK (by rfl) _ _ _ rfl _ _ rfl _ (by conv => lhs; whnf) (by rfl) ?_; clear hK; intro w hK) | (refine KL_store hK (by rfl) _ _ _ rfl _ _ rfl _ rfl ?_; clear hK; intro w hK)) | ((with_reducible change wpList _ _ _ (Oper.mk _ (Op.alloc _) _ _ _ _ :: _) _ _); refine KL_alloc hK (by rfl) _ rfl ?_; clear hK; intro b w hK) | ((with_reducible change wpList _ _ _ (Oper.mk _ (Op.box _ _) _ _ _ _ :: _) _ _); refine KL_box hK (by rfl) _ _ rfl _ (by conv => lhs; whnf) ?_; clear hK; intro b w hK) | ((with_reducible change wpList _ _ _ (Oper.mk _ (Op.build _ _) _ _ _ _ :: _) _ _); first | (refine KL_build0 (by rfl) _ rfl ?_) | (refine KL_build1 (by rfl) _ _ _ rfl _ (by conv => lhs; whnf) ?_) | (refine KL_build2 (by rfl) _ _ _ _ _ rfl _ (by conv => lhs; whnf) _ (by conv => lhs; whnf) ?_) | (refine KL_build3 (by rfl) _ _ _ _ _ _ _ rfl _ (by conv => lhs; whnf) _ (by conv => lhs; whnf) _ (by conv => lhs; whnf) ?_) | (refine KL_build4 (by rfl) _ _ _ _ _ _ _ _ _ rfl _ (by conv => lhs; whnf) _ (by conv => lhs; whnf) _ (by conv => lhs; whnf) _ (by conv => lhs; whnf) ?_) | (refine KL_build5 (by rfl) _ _ _ _ _ _ _ _ _ _ _ rfl _ (by conv => lhs; whnf) _ (by conv => lhs; whnf) _ (by conv => lhs; whnf) _ (by conv => lhs; whnf) _ (by conv => lhs; whnf) ?_)) | ((with_reducible change wpList _ _ _ (Oper.mk _ (Op.binOp _ _ _ _ _) _ _ _ _ :: _) _ _); refine KL_cmp (by rfl) _ _ _ _ _ rfl _ _ rfl rfl ?_) | ((with_reducible change wpList _ _ _ (Oper.mk _ (Op.call _) _ _ _ _ :: _) _ _); refine KL_copy hK (by rfl) _ _ _ _ rfl _ _ _ _ _ _ _ _ rfl rfl _ _ (by first | exact Nat.min_eq_left (by first | decide | omega) | exact Nat.min_eq_right (by first | decide | omega)) (by first | exact Nat.mul_one _ | (conv => lhs; simp only [Nat.reduceMul])) ?_; clear hK; intro w hK) | ((with_reducible change wpList _ _ _ (Oper.mk _ (Op.index _ _ _) _ _ _ _ :: _) _ _); refine KL_index (by rfl) _ _ _ rfl _ rfl _ rfl _ (by conv => lhs; simp only [Int.reduceToNat, Int.toNat_natCast]) (by first | decide | omega) (by first | decide | omega) ?_) | ((with_reducible change wpList _ _ _ (Oper.mk _ (Op.sliceToArrayPointer _ _) _ _ _ _ :: _) _ _); refine KL_arr (by rfl) _ _ rfl _ _ _ rfl (by first | decide | omega) ?_)) | (go_at_call 82; refine (HL.out _ hK).mono ?_; rintro r w1 ⟨rfl, hK'⟩; clear hK; have hK := hK'; clear hK'))
      go_end0
      exact HB.out _ hK
end Go.Proofs.Ytpkhomfblilkhaa.E
