/- tree.set walked: inner nodes. -/
import Derived.Test.YtpkhomfblilkhaaF10
namespace Go.Proofs.Ytpkhomfblilkhaa.E
set_option linter.all false
open Go Go.RowKit

/-- What set leans on, on its way. -/
def Good : (d : Nat) → Tr d → Ent → Prop
  | 0, es, _ => Ok 0 es
  | d + 1, t, e => Asc Ky.n t.1 ∧ t.2.length = t.1.length + 1 ∧ t.2.length ≤ 50 ∧ ∀ u, t.2[up Ky.n t.1 e.n]? = some u → Good d u e ∧ Ok d (setT d u e)
theorem up_le (l : List Ky) (k : Nat) : up Ky.n l k ≤ l.length := List.findIdx_le_length
theorem set_at_kid {d : Nat} {t : Tr (d + 1)} {e : Ent} {u : Tr d} (h : t.2[up Ky.n t.1 e.n]? = some u) : setT (d + 1) t e = icutT d (t.1, t.2.set (up Ky.n t.1 e.n) (setT d u e)) (up Ky.n t.1 e.n) := by
  rw [setT, h]
theorem fresh_at_kid {d : Nat} {t : Tr (d + 1)} {e : Ent} {u : Tr d} (h : t.2[up Ky.n t.1 e.n]? = some u) : freshT (d + 1) t e = freshT d u e := by
  rw [freshT, h]
set_option maxRecDepth 20000 in
set_option maxHeartbeats 1600000 in
theorem setI_c {d : Nat} {e : Ent} (ih : ∀ {F : Nat → Prop} {w0 w : World} {L M : Mem} {p : Value} {t : Tr d}, Kn F w0 w (M ++ L) → Rep d t p M → Good d t e → Calls Try.prog 44 #[p, .agg (U e.b).toArray] w (PutRet F w0 L d (setT d t e) p (.bool (freshT d t e))))
    {F : Nat → Prop} {w0 w : World} {L M : Mem} {p : Value} {t : Tr (d + 1)} (hK : Kn F w0 w (M ++ L)) (hR : Rep (d + 1) t p M) (hg : Good (d + 1) t e) : Calls Try.prog 44 #[p, .agg (U e.b).toArray] w (PutRet F w0 L (d + 1) (setT (d + 1) t e) p (.bool (freshT (d + 1) t e))) := by
  obtain ⟨ha, hkl, hn, hu⟩ := hg
  obtain ⟨i, hi⟩ : ∃ i, i = up Ky.n t.1 e.n := ⟨_, rfl⟩
  have hil : i < t.2.length := by have := up_le t.1 e.n; omega
  obtain ⟨u, hue⟩ : ∃ u, t.2[i]? = some u := ⟨_, List.getElem?_eq_getElem hil⟩
  rw [← hi] at hu
  obtain ⟨hgu, hok⟩ := hu u hue
  obtain ⟨res, hres⟩ : ∃ r, r = setT (d + 1) t e := ⟨_, rfl⟩
  have hres2 : res = icutT d (t.1, t.2.set i (setT d u e)) i := by rw [hres, hi, set_at_kid (hi ▸ hue)]
  have hfr : freshT (d + 1) t e = freshT d u e := fresh_at_kid (hi ▸ hue)
  rw [← hres, hfr]
  obtain ⟨b, vk, Mk, vp, Mp, ps, MM, rfl, hVk, hVp, hMM, rfl⟩ := hR
  obtain ⟨ks, kids⟩ := t
  dsimp only at hVk hVp hMM ha hkl hn hi hil hue hres2
  obtain ⟨gp, cp, jp, rfl, rfl, hxp, hcp, hnp, hmp⟩ := hVp.pos (by omega)
  obtain ⟨A, N, B, q, rfl, hq, hQ, hA, hB⟩ := hMM.at hil
  have hpl := hMM.len
  rw [List.getElem?_eq_getElem hil, Option.some.injEq] at hue
  rw [hue] at hQ
  obtain ⟨T, bq, rfl⟩ := hQ.iface
  haveI hat : At (ps ++ jp) i (.iface T (.pointer (some ⟨bq, 0, none⟩))) := ⟨by rw [List.getElem?_append_left (by omega)]; exact hq⟩
  have hKid : ∀ (w : World) (x : Nat × TypeId × List Value), Kn F w0 w (x :: (b, 106, [vk, .slice (some ⟨gp, 0, none⟩) kids.length cp]) :: (Mk ++ (gp, 37, ps ++ jp) :: (A ++ (N ++ (B ++ L))))) →
      Calls Try.prog 64 #[.pointer (some ⟨b, 0, none⟩), .agg (U e.ky.b).toArray] w fun r w' => r = .returned (.int .i64 (i : Nat)) ∧ Kn F w0 w' (x :: (b, 106, [vk, .slice (some ⟨gp, 0, none⟩) kids.length cp]) :: (Mk ++ (gp, 37, ps ++ jp) :: (A ++ (N ++ (B ++ L))))) := fun w x h => by
    refine (kid_c h.in1 hVk ha (by omega) e.ky).mono ?_
    rintro r w' ⟨rfl, h'⟩
    exact ⟨by rw [hi]; rfl, h'.out1⟩
  have hSet : ∀ (w : World) (x : Nat × TypeId × List Value), Kn F w0 w (x :: (b, 106, [vk, .slice (some ⟨gp, 0, none⟩) kids.length cp]) :: (Mk ++ (gp, 37, ps ++ jp) :: (A ++ (N ++ (B ++ L))))) →
      Calls Try.prog 44 #[.iface T (.pointer (some ⟨bq, 0, none⟩)), .agg (U e.b).toArray] w fun r w' => r = .returned (.bool (freshT d u e)) ∧ ∃ N', Rep d (setT d u e) (.iface T (.pointer (some ⟨bq, 0, none⟩))) N' ∧ Kn F w0 w' (x :: (b, 106, [vk, .slice (some ⟨gp, 0, none⟩) kids.length cp]) :: (Mk ++ (gp, 37, ps ++ jp) :: (A ++ (N' ++ (B ++ L))))) := fun w x h => by
    have h1 : Kn F w0 w (N ++ (x :: (b, 106, [vk, .slice (some ⟨gp, 0, none⟩) kids.length cp]) :: (Mk ++ (gp, 37, ps ++ jp) :: (A ++ (B ++ L))))) := (Kn.mv h [] (fun f => by simp only [wt_append, wt_cons, wt_nil]; omega))
    refine (ih h1 hQ hgu).mono ?_
    rintro r w' ⟨rfl, N', hN, h'⟩
    exact ⟨rfl, N', hN, (Kn.mv h' [] (fun f => by simp only [wt_append, wt_cons, wt_nil]; omega))⟩
  have hCut : ∀ (w : World) (x : Nat × TypeId × List Value) (N' : Mem), Rep d (setT d u e) (.iface T (.pointer (some ⟨bq, 0, none⟩))) N' → Kn F w0 w (x :: (b, 106, [vk, .slice (some ⟨gp, 0, none⟩) kids.length cp]) :: (Mk ++ (gp, 37, ps ++ jp) :: (A ++ (N' ++ (B ++ L))))) →
      Calls Try.prog 65 #[.pointer (some ⟨b, 0, none⟩), .int .i64 i] w (PutRet F w0 L (d + 1) res (.iface 103 (.pointer (some ⟨b, 0, none⟩))) (.tuple #[])) := fun w x N' hN h => by
    have h0 := h.tl rfl
    have h1 : Kn F w0 w (((b, 106, [vk, .slice (some ⟨gp, 0, none⟩) kids.length cp]) :: (Mk ++ ([(gp, 37, ps ++ jp)] ++ (A ++ (N' ++ B))))) ++ L) := (Kn.mv h0 [] (fun f => by simp only [wt_append, wt_cons, wt_nil]; omega))
    have hl : (kids.set i (setT d u e)).length = kids.length := List.length_set
    have hpe : ps.set i (.iface T (.pointer (some ⟨bq, 0, none⟩))) = ps := by
      obtain ⟨h2, h3⟩ := List.getElem?_eq_some_iff.1 hq
      rw [← h3]; exact List.set_getElem_self _
    have hM2 : Reps (Rep d) (kids.set i (setT d u e)) ps (A ++ (N' ++ B)) := by
      have := Reps.put hil hpl hA hN hB
      rwa [hpe] at this
    rw [hres2]
    refine icut_c (t := (ks, kids.set i (setT d u e))) h1 ⟨b, vk, Mk, _, [(gp, 37, ps ++ jp)], ps, _, rfl, hVk, ?_, hM2, rfl⟩ (by dsimp only; omega) ?_ (by dsimp only; omega) (by dsimp only; omega)
    · dsimp only
      rw [hl]; exact .row gp cp jp hxp hcp hnp hmp
    · dsimp only
      rw [List.getElem_set_self]; exact hok
  have HK := Lib.hid hKid
  have HS := Lib.hid hSet
  have HC := Lib.hid hCut
  have hi' : (i : Int) < kids.length := by omega
  have hK1 : Kn F w0 w ((b, 106, [vk, .slice (some ⟨gp, 0, none⟩) kids.length cp]) :: (Mk ++ (gp, 37, ps ++ jp) :: (A ++ (N ++ (B ++ L))))) := (Kn.mv hK [] (fun f => by simp only [wt_append, wt_cons, wt_nil]; omega))
  clear hK hKid hSet hCut ih hi hkl hpl hue hres hres2 hfr
  have hK := hK1
  clear hK1
  go_enter Try.func44, Try.ntmps44
  go_wp2_with (first | ((with_reducible change wpList _ _ _ (_ :: _) _ _); first | ((with_reducible change wpList _ _ _ (Oper.mk _ (Op.load _ _) _ _ _ _ :: _) _ _); first | (refine KL_load1 hK (by rfl) _ _ rfl _ _ rfl ?_) | (refine KL_load hK (by rfl) _ _ rfl _ _ rfl ?_)) | ((with_reducible change wpList _ _ _ (Oper.mk _ (Op.store _ _ _) _ _ _ _ :: _) _ _); first | (refine KL_store1 hK (by rfl) _ _ _ rfl _ _ rfl _ (by conv => lhs; whnf) (by rfl) ?_; clear hK; intro w hK) | (refine KL_store hK (by rfl) _ _ _ rfl _ _ rfl _ rfl ?_; clear hK; intro w hK)) | ((with_reducible change wpList _ _ _ (Oper.mk _ (Op.alloc _) _ _ _ _ :: _) _ _); refine KL_alloc hK (by rfl) _ rfl ?_; clear hK; intro b w hK) | ((with_reducible change wpList _ _ _ (Oper.mk _ (Op.box _ _) _ _ _ _ :: _) _ _); refine KL_box hK (by rfl) _ _ rfl _ (by conv => lhs; whnf) ?_; clear hK; intro b w hK) | ((with_reducible change wpList _ _ _ (Oper.mk _ (Op.build _ _) _ _ _ _ :: _) _ _); first | (refine KL_build0 (by rfl) _ rfl ?_) | (refine KL_build1 (by rfl) _ _ _ rfl _ (by conv => lhs; whnf) ?_) | (refine KL_build2 (by rfl) _ _ _ _ _ rfl _ (by conv => lhs; whnf) _ (by conv => lhs; whnf) ?_) | (refine KL_build3 (by rfl) _ _ _ _ _ _ _ rfl _ (by conv => lhs; whnf) _ (by conv => lhs; whnf) _ (by conv => lhs; whnf) ?_) | (refine KL_build4 (by rfl) _ _ _ _ _ _ _ _ _ rfl _ (by conv => lhs; whnf) _ (by conv => lhs; whnf) _ (by conv => lhs; whnf) _ (by conv => lhs; whnf) ?_) | (refine KL_build5 (by rfl) _ _ _ _ _ _ _ _ _ _ _ rfl _ (by conv => lhs; whnf) _ (by conv => lhs; whnf) _ (by conv => lhs; whnf) _ (by conv => lhs; whnf) _ (by conv => lhs; whnf) ?_)) | ((with_reducible change wpList _ _ _ (Oper.mk _ (Op.binOp _ _ _ _ _) _ _ _ _ :: _) _ _); refine KL_cmp (by rfl) _ _ _ _ _ rfl _ _ rfl rfl ?_) | ((with_reducible change wpList _ _ _ (Oper.mk _ (Op.call _) _ _ _ _ :: _) _ _); refine KL_copy hK (by rfl) _ _ _ _ rfl _ _ _ _ _ _ _ _ rfl rfl _ _ (by first | exact Nat.min_eq_left (by first | decide | omega) | exact Nat.min_eq_right (by first | decide | omega)) (by first | exact Nat.mul_one _ | (conv => lhs; simp only [Nat.reduceMul])) ?_; clear hK; intro w hK) | ((with_reducible change wpList _ _ _ (Oper.mk _ (Op.index _ _ _) _ _ _ _ :: _) _ _); refine KL_index (by rfl) _ _ _ rfl _ rfl _ rfl _ (by conv => lhs; simp only [Int.reduceToNat, Int.toNat_natCast]) (by first | decide | omega) (by first | decide | omega) ?_) | ((with_reducible change wpList _ _ _ (Oper.mk _ (Op.sliceToArrayPointer _ _) _ _ _ _ :: _) _ _); refine KL_arr (by rfl) _ _ rfl _ _ _ rfl (by first | decide | omega) ?_)) | (go_at_call 64; refine (HK.out _ _ hK).mono ?_; rintro r w1 ⟨rfl, hK'⟩; clear hK; have hK := hK'; clear hK') | (go_at_call 44; refine (HS.out _ _ hK).mono ?_; rintro r w1 ⟨rfl, N', hN', hK'⟩; clear hK; have hK := hK'; clear hK') | (go_at_call 65; refine (HC.out _ _ _ hN' hK).mono ?_; rintro r w1 ⟨rfl, M', hM', hK'⟩; clear hK; have hK := hK'; clear hK'))
  obtain ⟨bk, rfl⟩ := hK.n0
  (refine wp_region_sub hK [(bk, 28, U e.b), (b, 106, [vk, .slice (some ⟨gp, 0, none⟩) kids.length cp]), (gp, 37, ps ++ jp)] (by kernel_rfl) ?_; (try clear hK); intro w hK hS)
  (refine KS_take 0 (by kernel_rfl) (by decide +kernel) (by decide +kernel) (by exact fun _ _ _ h => h) (by rfl) (by intro w hSw; go_simp; with_reducible rfl) hS ?_; (try simp only [Act.put, List.setIfInBounds_toArray, List.set_cons_zero, List.set_cons_succ])); (refine KS_take 1 (by kernel_rfl) (by decide +kernel) (by decide +kernel) (by exact fun _ _ _ h => h) (by rfl) (by intro w hSw; go_simp; with_reducible rfl) hS ?_; (try simp only [Act.put, List.setIfInBounds_toArray, List.set_cons_zero, List.set_cons_succ])); (refine KS_take 2 (by kernel_rfl) (by decide +kernel) (by decide +kernel) (by exact fun _ _ _ h => h) (by rfl) (by intro w hSw; go_simp; with_reducible rfl) hS ?_; (try simp only [Act.put, List.setIfInBounds_toArray, List.set_cons_zero, List.set_cons_succ]))
  (refine KS_take 3 (by kernel_rfl) (by decide +kernel) (by decide +kernel) (by exact fun _ _ _ h => h) (by rfl) (by first | exact KS_load1 _ _ rfl _ _ rfl | exact KS_load _ _ rfl _ _ rfl) hS ?_; (try simp only [Act.put, List.setIfInBounds_toArray, List.set_cons_zero, List.set_cons_succ]))
  (refine KS_take 4 (by kernel_rfl) (by decide +kernel) (by decide +kernel) (by exact fun _ _ _ h => h) (by rfl) (by intro w hSw; go_simp; with_reducible rfl) hS ?_; (try simp only [Act.put, List.setIfInBounds_toArray, List.set_cons_zero, List.set_cons_succ])); (refine KS_take 5 (by kernel_rfl) (by decide +kernel) (by decide +kernel) (by exact fun _ _ _ h => h) (by rfl) (by intro w hSw; go_simp; with_reducible rfl) hS ?_; (try simp only [Act.put, List.setIfInBounds_toArray, List.set_cons_zero, List.set_cons_succ]))
  (refine KS_take 6 (by kernel_rfl) (by decide +kernel) (by decide +kernel) (by exact fun _ _ _ h => h) (by rfl) (by first | exact KS_load1 _ _ rfl _ _ rfl | exact KS_load _ _ rfl _ _ rfl) hS ?_; (try simp only [Act.put, List.setIfInBounds_toArray, List.set_cons_zero, List.set_cons_succ]))
  (refine KS_take 7 (by kernel_rfl) (by decide +kernel) (by decide +kernel) (by exact fun _ _ _ h => h) (by rfl) (by first | exact KS_load1 _ _ rfl _ _ rfl | exact KS_load _ _ rfl _ _ rfl) hS ?_; (try simp only [Act.put, List.setIfInBounds_toArray, List.set_cons_zero, List.set_cons_succ]))
  (refine KS_one 8 (by decide +kernel) (by rfl) (fun K hk => ?_); (go_simp; (go_at_call 44; refine (HS.out _ _ hK).mono ?_; rintro r w1 ⟨rfl, N', hN', hK'⟩; (try clear hK); have hK := hK'; clear hK'; dsimp only)); (refine hk.out _ _ hK.subs (fun hS => ?_); clear hk K; (try simp only [Act.put, List.setIfInBounds_toArray, List.set_cons_zero, List.set_cons_succ])))
  (refine KS_take 9 (by kernel_rfl) (by decide +kernel) (by decide +kernel) (by exact fun _ _ _ h => h) (by rfl) (by intro w hSw; go_simp; with_reducible rfl) hS ?_; (try simp only [Act.put, List.setIfInBounds_toArray, List.set_cons_zero, List.set_cons_succ]))
  (refine wpAnyH_done (by kernel_rfl) ?_ _)
  go_wp2_with (first | ((with_reducible change wpList _ _ _ (_ :: _) _ _); first | ((with_reducible change wpList _ _ _ (Oper.mk _ (Op.load _ _) _ _ _ _ :: _) _ _); first | (refine KL_load1 hK (by rfl) _ _ rfl _ _ rfl ?_) | (refine KL_load hK (by rfl) _ _ rfl _ _ rfl ?_)) | ((with_reducible change wpList _ _ _ (Oper.mk _ (Op.store _ _ _) _ _ _ _ :: _) _ _); first | (refine KL_store1 hK (by rfl) _ _ _ rfl _ _ rfl _ (by conv => lhs; whnf) (by rfl) ?_; clear hK; intro w hK) | (refine KL_store hK (by rfl) _ _ _ rfl _ _ rfl _ rfl ?_; clear hK; intro w hK)) | ((with_reducible change wpList _ _ _ (Oper.mk _ (Op.alloc _) _ _ _ _ :: _) _ _); refine KL_alloc hK (by rfl) _ rfl ?_; clear hK; intro b w hK) | ((with_reducible change wpList _ _ _ (Oper.mk _ (Op.box _ _) _ _ _ _ :: _) _ _); refine KL_box hK (by rfl) _ _ rfl _ (by conv => lhs; whnf) ?_; clear hK; intro b w hK) | ((with_reducible change wpList _ _ _ (Oper.mk _ (Op.build _ _) _ _ _ _ :: _) _ _); first | (refine KL_build0 (by rfl) _ rfl ?_) | (refine KL_build1 (by rfl) _ _ _ rfl _ (by conv => lhs; whnf) ?_) | (refine KL_build2 (by rfl) _ _ _ _ _ rfl _ (by conv => lhs; whnf) _ (by conv => lhs; whnf) ?_) | (refine KL_build3 (by rfl) _ _ _ _ _ _ _ rfl _ (by conv => lhs; whnf) _ (by conv => lhs; whnf) _ (by conv => lhs; whnf) ?_) | (refine KL_build4 (by rfl) _ _ _ _ _ _ _ _ _ rfl _ (by conv => lhs; whnf) _ (by conv => lhs; whnf) _ (by conv => lhs; whnf) _ (by conv => lhs; whnf) ?_) | (refine KL_build5 (by rfl) _ _ _ _ _ _ _ _ _ _ _ rfl _ (by conv => lhs; whnf) _ (by conv => lhs; whnf) _ (by conv => lhs; whnf) _ (by conv => lhs; whnf) _ (by conv => lhs; whnf) ?_)) | ((with_reducible change wpList _ _ _ (Oper.mk _ (Op.binOp _ _ _ _ _) _ _ _ _ :: _) _ _); refine KL_cmp (by rfl) _ _ _ _ _ rfl _ _ rfl rfl ?_) | ((with_reducible change wpList _ _ _ (Oper.mk _ (Op.call _) _ _ _ _ :: _) _ _); refine KL_copy hK (by rfl) _ _ _ _ rfl _ _ _ _ _ _ _ _ rfl rfl _ _ (by first | exact Nat.min_eq_left (by first | decide | omega) | exact Nat.min_eq_right (by first | decide | omega)) (by first | exact Nat.mul_one _ | (conv => lhs; simp only [Nat.reduceMul])) ?_; clear hK; intro w hK) | ((with_reducible change wpList _ _ _ (Oper.mk _ (Op.index _ _ _) _ _ _ _ :: _) _ _); refine KL_index (by rfl) _ _ _ rfl _ rfl _ rfl _ (by conv => lhs; simp only [Int.reduceToNat, Int.toNat_natCast]) (by first | decide | omega) (by first | decide | omega) ?_) | ((with_reducible change wpList _ _ _ (Oper.mk _ (Op.sliceToArrayPointer _ _) _ _ _ _ :: _) _ _); refine KL_arr (by rfl) _ _ rfl _ _ _ rfl (by first | decide | omega) ?_)) | (go_at_call 65; refine (HC.out _ _ _ hN' hK).mono ?_; rintro r w1 ⟨rfl, M', hM', hK'⟩; clear hK; have hK := hK'; clear hK'))
  go_ret
  exact ⟨rfl, _, hM', hK⟩
theorem set_c (e : Ent) : ∀ {d : Nat} {F : Nat → Prop} {w0 w : World} {L M : Mem} {p : Value} {t : Tr d}, Kn F w0 w (M ++ L) → Rep d t p M → Good d t e → Calls Try.prog 44 #[p, .agg (U e.b).toArray] w (PutRet F w0 L d (setT d t e) p (.bool (freshT d t e)))
  | 0, _, _, _, _, _, _, _, hK, hR, hg => set0_c e hK hR hg
  | _ + 1, _, _, _, _, _, _, _, hK, hR, hg => setI_c (fun h1 h2 h3 => set_c e h1 h2 h3) hK hR hg
end Go.Proofs.Ytpkhomfblilkhaa.E
