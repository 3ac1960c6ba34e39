/- tree.del walked. -/
import Derived.Test.YtpkhomfblilkhaaF17b
namespace Go.Proofs.Ytpkhomfblilkhaa.E
set_option linter.all false
open Go Go.RowKit

theorem was0 {es : List Ent} {k : Nat} : wasT 0 es k = isAt Ent.n es k := rfl
set_option maxRecDepth 20000 in
set_option maxHeartbeats 1600000 in
theorem del0_c {F : Nat → Prop} {w0 w : World} {L M : Mem} {p : Value} {es : List Ent} (k : Ky) (hK : Kn F w0 w (M ++ L)) (hR : Rep 0 es p M) (ho : Ok 0 es) : Calls Try.prog 46 #[p, .agg (U k.b).toArray] w (PutRet F w0 L 0 (delT 0 es k.n) p (.bool (wasT 0 es k.n))) := by
  obtain ⟨b, v, Mv, rfl, hV, rfl⟩ := hR
  obtain ⟨ha, hn⟩ := ho
  obtain ⟨res, hres⟩ : ∃ r, r = delT 0 es k.n := ⟨_, rfl⟩
  obtain ⟨i, hi⟩ : ∃ i, i = lo Ent.n es k.n := ⟨_, rfl⟩
  have hll : i ≤ es.length := hi ▸ lo_le (g := Ent.n) es k.n
  have hP := fun (w : World) (L : Mem) (h : Kn F w0 w ((b, 111, [v]) :: (Mv ++ L))) => place_c h hV ha (by omega) k
  rw [← hres, was0]
  rw [List.cons_append] at hK
  rw [← hi] at hP
  cases hat : isAt Ent.n es k.n
  · have hdel := del0_no hat
    rw [← hres] at hdel
    rw [hat] at hP
    have HP := Lib.hid hP
    have HS := Lib.hid hdel
    clear hP hdel hres hat hi
    go_enter Try.func46, Try.ntmps46
    go_wp2_with (first | ((with_reducible change wpList _ _ _ (_ :: _) _ _); first | ((with_reducible change wpList _ _ _ (Oper.mk _ (Op.load _ _) _ _ _ _ :: _) _ _); first | (refine KL_load1 hK (by rfl) _ _ rfl _ _ rfl ?_) | (refine KL_load hK (by rfl) _ _ rfl _ _ rfl ?_)) | ((with_reducible change wpList _ _ _ (Oper.mk _ (Op.store _ _ _) _ _ _ _ :: _) _ _); first | (refine KL_store1 hK (by rfl) _ _ _ rfl _ _ rfl _ (by conv => lhs; whnf) (by rfl) ?_; clear hK; intro w hK) | (refine KL_store hK (by rfl) _ _ _ rfl _ _ rfl _ rfl ?_; clear hK; intro w hK)) | ((with_reducible change wpList _ _ _ (Oper.mk _ (Op.alloc _) _ _ _ _ :: _) _ _); refine KL_alloc hK (by rfl) _ rfl ?_; clear hK; intro b w hK) | ((with_reducible change wpList _ _ _ (Oper.mk _ (Op.box _ _) _ _ _ _ :: _) _ _); refine KL_box hK (by rfl) _ _ rfl _ (by conv => lhs; whnf) ?_; clear hK; intro b w hK) | ((with_reducible change wpList _ _ _ (Oper.mk _ (Op.build _ _) _ _ _ _ :: _) _ _); first | (refine KL_build0 (by rfl) _ rfl ?_) | (refine KL_build1 (by rfl) _ _ _ rfl _ (by conv => lhs; whnf) ?_) | (refine KL_build2 (by rfl) _ _ _ _ _ rfl _ (by conv => lhs; whnf) _ (by conv => lhs; whnf) ?_) | (refine KL_build3 (by rfl) _ _ _ _ _ _ _ rfl _ (by conv => lhs; whnf) _ (by conv => lhs; whnf) _ (by conv => lhs; whnf) ?_) | (refine KL_build4 (by rfl) _ _ _ _ _ _ _ _ _ rfl _ (by conv => lhs; whnf) _ (by conv => lhs; whnf) _ (by conv => lhs; whnf) _ (by conv => lhs; whnf) ?_) | (refine KL_build5 (by rfl) _ _ _ _ _ _ _ _ _ _ _ rfl _ (by conv => lhs; whnf) _ (by conv => lhs; whnf) _ (by conv => lhs; whnf) _ (by conv => lhs; whnf) _ (by conv => lhs; whnf) ?_)) | ((with_reducible change wpList _ _ _ (Oper.mk _ (Op.binOp _ _ _ _ _) _ _ _ _ :: _) _ _); refine KL_cmp (by rfl) _ _ _ _ _ rfl _ _ rfl rfl ?_) | ((with_reducible change wpList _ _ _ (Oper.mk _ (Op.call _) _ _ _ _ :: _) _ _); refine KL_copy hK (by rfl) _ _ _ _ rfl _ _ _ _ _ _ _ _ rfl rfl _ _ (by first | exact Nat.min_eq_left (by first | decide | omega) | exact Nat.min_eq_right (by first | decide | omega)) (by first | exact Nat.mul_one _ | (conv => lhs; simp only [Nat.reduceMul])) ?_; clear hK; intro w hK) | ((with_reducible change wpList _ _ _ (Oper.mk _ (Op.index _ _ _) _ _ _ _ :: _) _ _); refine KL_index (by rfl) _ _ _ rfl _ rfl _ rfl _ (by conv => lhs; simp only [Int.reduceToNat, Int.toNat_natCast]) (by first | decide | omega) (by first | decide | omega) ?_) | ((with_reducible change wpList _ _ _ (Oper.mk _ (Op.sliceToArrayPointer _ _) _ _ _ _ :: _) _ _); refine KL_arr (by rfl) _ _ rfl _ _ _ rfl (by first | decide | omega) ?_)) | (go_at_call 62; refine (HP.out _ _ hK.in1).mono ?_; rintro r w1 ⟨rfl, hK'⟩; clear hK; have hK := hK'.out1; (try rw [List.singleton_append] at hK); clear hK'))
    go_ret
    obtain rfl : res = es := HS.out
    exact ⟨rfl, _, ⟨_, v, Mv, rfl, hV, rfl⟩, hK.tl rfl⟩
  · have hdel := del0_yes hat
    rw [← hi, ← hres] at hdel
    rw [hat] at hP
    have hlt : i < es.length := by
      rcases Nat.lt_or_ge i es.length with h | h
      · exact h
      · rw [isAt, ← hi, List.getElem?_eq_none h] at hat; cases hat
    have HP := Lib.hid hP
    have HS := Lib.hid hdel
    clear hP hdel hres hat hi
    obtain ⟨g, cap, junk, rfl, rfl, hx, hc, hnc, hm⟩ := hV.pos (by omega)
    have h1 := rows_one rE_one es
    have hD : ∀ w (x : Nat × TypeId × List Value), Kn F w0 w (x :: (b, 111, [.slice (some ⟨g, 0, none⟩) es.length cap]) :: (g, 28, rows rE es ++ junk) :: L) →
        Calls Try.prog 69 #[.slice (some ⟨g, 0, none⟩) es.length cap, .int .i64 i, .int .i64 ((i : Int) + 1)] w fun r w' => ∃ v' M', r = .returned v' ∧ Sl 28 80 (es.length - 1) (rows rE (es.take i ++ es.drop (i + 1))) v' M' ∧ Kn F w0 w' (x :: (b, 111, [.slice (some ⟨g, 0, none⟩) es.length cap]) :: (M' ++ L)) := fun w x h => by
      have h0 : Kn F w0 w ((g, 28, rows rE es ++ junk) :: x :: (b, 111, [.slice (some ⟨g, 0, none⟩) es.length cap]) :: L) := (Kn.mv h [] (fun f => by simp only [wt_append, wt_cons, wt_nil]; omega))
      refine (delE_c h0 hx hc hm hnc hlt (by omega) h1).mono ?_
      rintro r w' ⟨v', M', rfl, hS, h'⟩
      rw [rows_del rE_len] at hS
      exact ⟨v', M', rfl, hS, h'.dn2⟩
    have HD := Lib.hid hD
    have hi' : (i : Int) < es.length := by omega
    have hw : IntKind.i64.wrap ((i : Int) + 1) = (i : Int) + 1 := by rw [IntKind.wrap_i64]; omega
    clear hD h1
    go_enter Try.func46, Try.ntmps46
    go_wp2_with (first | (go_at_call 69; refine (HD.out _ _ hK).mono ?_; rintro r w1 ⟨v', M', rfl, hS', hK'⟩; clear hK; have hK := hK'; clear hK') | ((with_reducible change wpList _ _ _ (_ :: _) _ _); first | ((with_reducible change wpList _ _ _ (Oper.mk _ (Op.load _ _) _ _ _ _ :: _) _ _); first | (refine KL_load1 hK (by rfl) _ _ rfl _ _ rfl ?_) | (refine KL_load hK (by rfl) _ _ rfl _ _ rfl ?_)) | ((with_reducible change wpList _ _ _ (Oper.mk _ (Op.store _ _ _) _ _ _ _ :: _) _ _); first | (refine KL_store1 hK (by rfl) _ _ _ rfl _ _ rfl _ (by conv => lhs; whnf) (by rfl) ?_; clear hK; intro w hK) | (refine KL_store hK (by rfl) _ _ _ rfl _ _ rfl _ rfl ?_; clear hK; intro w hK)) | ((with_reducible change wpList _ _ _ (Oper.mk _ (Op.alloc _) _ _ _ _ :: _) _ _); refine KL_alloc hK (by rfl) _ rfl ?_; clear hK; intro b w hK) | ((with_reducible change wpList _ _ _ (Oper.mk _ (Op.box _ _) _ _ _ _ :: _) _ _); refine KL_box hK (by rfl) _ _ rfl _ (by conv => lhs; whnf) ?_; clear hK; intro b w hK) | ((with_reducible change wpList _ _ _ (Oper.mk _ (Op.build _ _) _ _ _ _ :: _) _ _); first | (refine KL_build0 (by rfl) _ rfl ?_) | (refine KL_build1 (by rfl) _ _ _ rfl _ (by conv => lhs; whnf) ?_) | (refine KL_build2 (by rfl) _ _ _ _ _ rfl _ (by conv => lhs; whnf) _ (by conv => lhs; whnf) ?_) | (refine KL_build3 (by rfl) _ _ _ _ _ _ _ rfl _ (by conv => lhs; whnf) _ (by conv => lhs; whnf) _ (by conv => lhs; whnf) ?_) | (refine KL_build4 (by rfl) _ _ _ _ _ _ _ _ _ rfl _ (by conv => lhs; whnf) _ (by conv => lhs; whnf) _ (by conv => lhs; whnf) _ (by conv => lhs; whnf) ?_) | (refine KL_build5 (by rfl) _ _ _ _ _ _ _ _ _ _ _ rfl _ (by conv => lhs; whnf) _ (by conv => lhs; whnf) _ (by conv => lhs; whnf) _ (by conv => lhs; whnf) _ (by conv => lhs; whnf) ?_)) | ((with_reducible change wpList _ _ _ (Oper.mk _ (Op.binOp _ _ _ _ _) _ _ _ _ :: _) _ _); refine KL_cmp (by rfl) _ _ _ _ _ rfl _ _ rfl rfl ?_) | ((with_reducible change wpList _ _ _ (Oper.mk _ (Op.call _) _ _ _ _ :: _) _ _); refine KL_copy hK (by rfl) _ _ _ _ rfl _ _ _ _ _ _ _ _ rfl rfl _ _ (by first | exact Nat.min_eq_left (by first | decide | omega) | exact Nat.min_eq_right (by first | decide | omega)) (by first | exact Nat.mul_one _ | (conv => lhs; simp only [Nat.reduceMul])) ?_; clear hK; intro w hK) | ((with_reducible change wpList _ _ _ (Oper.mk _ (Op.index _ _ _) _ _ _ _ :: _) _ _); refine KL_index (by rfl) _ _ _ rfl _ rfl _ rfl _ (by conv => lhs; simp only [Int.reduceToNat, Int.toNat_natCast]) (by first | decide | omega) (by first | decide | omega) ?_) | ((with_reducible change wpList _ _ _ (Oper.mk _ (Op.sliceToArrayPointer _ _) _ _ _ _ :: _) _ _); refine KL_arr (by rfl) _ _ rfl _ _ _ rfl (by first | decide | omega) ?_)) | (go_at_call 62; refine (HP.out _ _ hK.in1).mono ?_; rintro r w1 ⟨rfl, hK'⟩; clear hK; have hK := hK'.out1; (try rw [List.singleton_append] at hK); clear hK') | ((with_reducible change wpList _ _ _ (Oper.mk _ (Op.store _ _ _) _ _ _ _ :: _) _ _); refine KL_store1 hK (by rfl) _ _ _ rfl _ _ rfl _ (by conv => lhs; whnf) (Sl.one (by assumption)) ?_; clear hK; intro w hK))
    go_ret
    obtain rfl : res = es.take i ++ es.drop (i + 1) := HS.out
    exact ⟨rfl, _, ⟨_, v', M', rfl, hS'.cg (by rw [List.length_append, List.length_take, List.length_drop]; omega) rfl, rfl⟩, hK.tl rfl⟩
/-- What del leans on, on its way. -/
def GoodD : (d : Nat) → Tr d → Nat → Prop
  | 0, es, _ => Ok 0 es
  | d + 1, t, k => Asc Ky.n t.1 ∧ t.2.length = t.1.length + 1 ∧ t.2.length ≤ 50 ∧ (∀ u ∈ t.2, Ok d u) ∧ ∀ u, t.2[up Ky.n t.1 k]? = some u → GoodD d u k ∧ Ok d (delT d u k) ∧
      ∀ a b q, (t.2.set (up Ky.n t.1 k) (delT d u k))[up Ky.n t.1 k - 1]? = some a → (t.2.set (up Ky.n t.1 k) (delT d u k))[up Ky.n t.1 k - 1 + 1]? = some b → t.1[up Ky.n t.1 k - 1]? = some q → Ok d (joinT d a b q)
set_option maxRecDepth 20000 in
set_option maxHeartbeats 1600000 in
theorem delI_c {d : Nat} {k : Ky} (ih : ∀ {F : Nat → Prop} {w0 w : World} {L M : Mem} {p : Value} {t : Tr d}, Kn F w0 w (M ++ L) → Rep d t p M → GoodD d t k.n → Calls Try.prog 46 #[p, .agg (U k.b).toArray] w (PutRet F w0 L d (delT d t k.n) p (.bool (wasT d t k.n))))
    {F : Nat → Prop} {w0 w : World} {L M : Mem} {p : Value} {t : Tr (d + 1)} (hK : Kn F w0 w (M ++ L)) (hR : Rep (d + 1) t p M) (hg : GoodD (d + 1) t k.n) : Calls Try.prog 46 #[p, .agg (U k.b).toArray] w (PutRet F w0 L (d + 1) (delT (d + 1) t k.n) p (.bool (wasT (d + 1) t k.n))) := by
  obtain ⟨ha, hkl, hn, hall, hu⟩ := hg
  obtain ⟨i, hi⟩ : ∃ i, i = up Ky.n t.1 k.n := ⟨_, rfl⟩
  have hil : i < t.2.length := by have := up_le t.1 k.n; omega
  obtain ⟨u, hue⟩ : ∃ u, t.2[i]? = some u := ⟨_, List.getElem?_eq_getElem hil⟩
  rw [← hi] at hu
  obtain ⟨hgu, hok, hoj⟩ := hu u hue
  obtain ⟨res, hres⟩ : ∃ r, r = delT (d + 1) t k.n := ⟨_, rfl⟩
  have hres2 : res = mendT d (t.1, t.2.set i (delT d u k.n)) i := by rw [hres, hi, del_at_kid (hi ▸ hue)]
  have hfr : wasT (d + 1) t k.n = wasT d u k.n := was_at_kid (hi ▸ hue)
  rw [← hres, hfr]
  obtain ⟨b, vk, Mk, vp, Mp, ps, MM, rfl, hVk, hVp, hMM, rfl⟩ := hR
  obtain ⟨ks, kids⟩ := t
  dsimp only at hVk hVp hMM ha hkl hn hi hil hue hres2 hall hoj
  obtain ⟨gp, cp, jp, rfl, rfl, hxp, hcp, hnp, hmp⟩ := hVp.pos (by omega)
  obtain ⟨A, N, B, q, rfl, hq, hQ, hA, hB⟩ := hMM.at hil
  have hpl := hMM.len
  rw [List.getElem?_eq_getElem hil, Option.some.injEq] at hue
  rw [hue] at hQ
  obtain ⟨T, bq, rfl⟩ := hQ.iface
  haveI hat : At (ps ++ jp) i (.iface T (.pointer (some ⟨bq, 0, none⟩))) := ⟨by rw [List.getElem?_append_left (by omega)]; exact hq⟩
  have hKid : ∀ (w : World) (x : Nat × TypeId × List Value), Kn F w0 w (x :: (b, 106, [vk, .slice (some ⟨gp, 0, none⟩) kids.length cp]) :: (Mk ++ (gp, 37, ps ++ jp) :: (A ++ (N ++ (B ++ L))))) →
      Calls Try.prog 64 #[.pointer (some ⟨b, 0, none⟩), .agg (U k.b).toArray] w fun r w' => r = .returned (.int .i64 (i : Nat)) ∧ Kn F w0 w' (x :: (b, 106, [vk, .slice (some ⟨gp, 0, none⟩) kids.length cp]) :: (Mk ++ (gp, 37, ps ++ jp) :: (A ++ (N ++ (B ++ L))))) := fun w x h => by
    refine (kid_c h.in1 hVk ha (by omega) k).mono ?_
    rintro r w' ⟨rfl, h'⟩
    exact ⟨by rw [hi], h'.out1⟩
  have hDel : ∀ (w : World) (x : Nat × TypeId × List Value), Kn F w0 w (x :: (b, 106, [vk, .slice (some ⟨gp, 0, none⟩) kids.length cp]) :: (Mk ++ (gp, 37, ps ++ jp) :: (A ++ (N ++ (B ++ L))))) →
      Calls Try.prog 46 #[.iface T (.pointer (some ⟨bq, 0, none⟩)), .agg (U k.b).toArray] w fun r w' => r = .returned (.bool (wasT d u k.n)) ∧ ∃ N', Rep d (delT d u k.n) (.iface T (.pointer (some ⟨bq, 0, none⟩))) N' ∧ Kn F w0 w' (x :: (b, 106, [vk, .slice (some ⟨gp, 0, none⟩) kids.length cp]) :: (Mk ++ (gp, 37, ps ++ jp) :: (A ++ (N' ++ (B ++ L))))) := fun w x h => by
    have h1 : Kn F w0 w (N ++ (x :: (b, 106, [vk, .slice (some ⟨gp, 0, none⟩) kids.length cp]) :: (Mk ++ (gp, 37, ps ++ jp) :: (A ++ (B ++ L))))) := (Kn.mv h [] (fun f => by simp only [wt_append, wt_cons, wt_nil]; omega))
    refine (ih h1 hQ hgu).mono ?_
    rintro r w' ⟨rfl, N', hN, h'⟩
    exact ⟨rfl, N', hN, (Kn.mv h' [] (fun f => by simp only [wt_append, wt_cons, wt_nil]; omega))⟩
  have hMend : ∀ (w : World) (x : Nat × TypeId × List Value) (N' : Mem), Rep d (delT d u k.n) (.iface T (.pointer (some ⟨bq, 0, none⟩))) N' → Kn F w0 w (x :: (b, 106, [vk, .slice (some ⟨gp, 0, none⟩) kids.length cp]) :: (Mk ++ (gp, 37, ps ++ jp) :: (A ++ (N' ++ (B ++ L))))) →
      Calls Try.prog 70 #[.pointer (some ⟨b, 0, none⟩), .int .i64 i] w (PutRet F w0 L (d + 1) res (.iface 103 (.pointer (some ⟨b, 0, none⟩))) (.tuple #[])) := fun w x N' hN h => by
    have h0 := h.tl rfl
    have h1 : Kn F w0 w (((b, 106, [vk, .slice (some ⟨gp, 0, none⟩) kids.length cp]) :: (Mk ++ ([(gp, 37, ps ++ jp)] ++ (A ++ (N' ++ B))))) ++ L) := (Kn.mv h0 [] (fun f => by simp only [wt_append, wt_cons, wt_nil]; omega))
    have hl : (kids.set i (delT d u k.n)).length = kids.length := List.length_set
    have hpe : ps.set i (.iface T (.pointer (some ⟨bq, 0, none⟩))) = ps := by
      obtain ⟨h2, h3⟩ := List.getElem?_eq_some_iff.1 hq
      rw [← h3]; exact List.set_getElem_self _
    have hM2 : Reps (Rep d) (kids.set i (delT d u k.n)) ps (A ++ (N' ++ B)) := by
      have := Reps.put hil hpl hA hN hB
      rwa [hpe] at this
    rw [hres2]
    refine mend_c (t := (ks, kids.set i (delT d u k.n))) h1 ⟨b, vk, Mk, _, [(gp, 37, ps ++ jp)], ps, _, rfl, hVk, ?_, hM2, rfl⟩ (by dsimp only; omega) (by dsimp only; omega) (by dsimp only; omega) ?_ ?_
    · dsimp only
      rw [hl]; exact .row gp cp jp hxp hcp hnp hmp
    · intro v hv
      rcases List.mem_or_eq_of_mem_set hv with hv | rfl
      · exact hall v hv
      · exact hok
    · intro a b q _ _ h1 h2 h3
      exact hoj a b q h1 h2 h3
  have HK := Lib.hid hKid
  have HS := Lib.hid hDel
  have HC := Lib.hid hMend
  have hi' : (i : Int) < kids.length := by omega
  have hK1 : Kn F w0 w ((b, 106, [vk, .slice (some ⟨gp, 0, none⟩) kids.length cp]) :: (Mk ++ (gp, 37, ps ++ jp) :: (A ++ (N ++ (B ++ L))))) := (Kn.mv hK [] (fun f => by simp only [wt_append, wt_cons, wt_nil]; omega))
  clear hK hKid hDel hMend ih hi hkl hpl hue hres hres2 hfr hoj hall
  have hK := hK1
  clear hK1
  go_enter Try.func46, Try.ntmps46
  go_wp2_with (first | ((with_reducible change wpList _ _ _ (_ :: _) _ _); first | ((with_reducible change wpList _ _ _ (Oper.mk _ (Op.load _ _) _ _ _ _ :: _) _ _); first | (refine KL_load1 hK (by rfl) _ _ rfl _ _ rfl ?_) | (refine KL_load hK (by rfl) _ _ rfl _ _ rfl ?_)) | ((with_reducible change wpList _ _ _ (Oper.mk _ (Op.store _ _ _) _ _ _ _ :: _) _ _); first | (refine KL_store1 hK (by rfl) _ _ _ rfl _ _ rfl _ (by conv => lhs; whnf) (by rfl) ?_; clear hK; intro w hK) | (refine KL_store hK (by rfl) _ _ _ rfl _ _ rfl _ rfl ?_; clear hK; intro w hK)) | ((with_reducible change wpList _ _ _ (Oper.mk _ (Op.alloc _) _ _ _ _ :: _) _ _); refine KL_alloc hK (by rfl) _ rfl ?_; clear hK; intro b w hK) | ((with_reducible change wpList _ _ _ (Oper.mk _ (Op.box _ _) _ _ _ _ :: _) _ _); refine KL_box hK (by rfl) _ _ rfl _ (by conv => lhs; whnf) ?_; clear hK; intro b w hK) | ((with_reducible change wpList _ _ _ (Oper.mk _ (Op.build _ _) _ _ _ _ :: _) _ _); first | (refine KL_build0 (by rfl) _ rfl ?_) | (refine KL_build1 (by rfl) _ _ _ rfl _ (by conv => lhs; whnf) ?_) | (refine KL_build2 (by rfl) _ _ _ _ _ rfl _ (by conv => lhs; whnf) _ (by conv => lhs; whnf) ?_) | (refine KL_build3 (by rfl) _ _ _ _ _ _ _ rfl _ (by conv => lhs; whnf) _ (by conv => lhs; whnf) _ (by conv => lhs; whnf) ?_) | (refine KL_build4 (by rfl) _ _ _ _ _ _ _ _ _ rfl _ (by conv => lhs; whnf) _ (by conv => lhs; whnf) _ (by conv => lhs; whnf) _ (by conv => lhs; whnf) ?_) | (refine KL_build5 (by rfl) _ _ _ _ _ _ _ _ _ _ _ rfl _ (by conv => lhs; whnf) _ (by conv => lhs; whnf) _ (by conv => lhs; whnf) _ (by conv => lhs; whnf) _ (by conv => lhs; whnf) ?_)) | ((with_reducible change wpList _ _ _ (Oper.mk _ (Op.binOp _ _ _ _ _) _ _ _ _ :: _) _ _); refine KL_cmp (by rfl) _ _ _ _ _ rfl _ _ rfl rfl ?_) | ((with_reducible change wpList _ _ _ (Oper.mk _ (Op.call _) _ _ _ _ :: _) _ _); refine KL_copy hK (by rfl) _ _ _ _ rfl _ _ _ _ _ _ _ _ rfl rfl _ _ (by first | exact Nat.min_eq_left (by first | decide | omega) | exact Nat.min_eq_right (by first | decide | omega)) (by first | exact Nat.mul_one _ | (conv => lhs; simp only [Nat.reduceMul])) ?_; clear hK; intro w hK) | ((with_reducible change wpList _ _ _ (Oper.mk _ (Op.index _ _ _) _ _ _ _ :: _) _ _); refine KL_index (by rfl) _ _ _ rfl _ rfl _ rfl _ (by conv => lhs; simp only [Int.reduceToNat, Int.toNat_natCast]) (by first | decide | omega) (by first | decide | omega) ?_) | ((with_reducible change wpList _ _ _ (Oper.mk _ (Op.sliceToArrayPointer _ _) _ _ _ _ :: _) _ _); refine KL_arr (by rfl) _ _ rfl _ _ _ rfl (by first | decide | omega) ?_)) | (go_at_call 64; refine (HK.out _ _ hK).mono ?_; rintro r w1 ⟨rfl, hK'⟩; clear hK; have hK := hK'; clear hK'))
  obtain ⟨bk, rfl⟩ := hK.n0
  (refine wp_region_sub hK [(bk, 23, U k.b), (b, 106, [vk, .slice (some ⟨gp, 0, none⟩) kids.length cp]), (gp, 37, ps ++ jp)] (by kernel_rfl) ?_; (try clear hK); intro w hK hS)
  (refine KS_take 0 (by kernel_rfl) (by decide +kernel) (by decide +kernel) (by exact fun _ _ _ h => h) (by rfl) (by intro w hSw; go_simp; with_reducible rfl) hS ?_; (try simp only [Act.put, List.setIfInBounds_toArray, List.set_cons_zero, List.set_cons_succ])); (refine KS_take 1 (by kernel_rfl) (by decide +kernel) (by decide +kernel) (by exact fun _ _ _ h => h) (by rfl) (by intro w hSw; go_simp; with_reducible rfl) hS ?_; (try simp only [Act.put, List.setIfInBounds_toArray, List.set_cons_zero, List.set_cons_succ])); (refine KS_take 2 (by kernel_rfl) (by decide +kernel) (by decide +kernel) (by exact fun _ _ _ h => h) (by rfl) (by intro w hSw; go_simp; with_reducible rfl) hS ?_; (try simp only [Act.put, List.setIfInBounds_toArray, List.set_cons_zero, List.set_cons_succ]))
  (refine KS_take 3 (by kernel_rfl) (by decide +kernel) (by decide +kernel) (by exact fun _ _ _ h => h) (by rfl) (by first | exact KS_load1 _ _ rfl _ _ rfl | exact KS_load _ _ rfl _ _ rfl) hS ?_; (try simp only [Act.put, List.setIfInBounds_toArray, List.set_cons_zero, List.set_cons_succ]))
  (refine KS_take 4 (by kernel_rfl) (by decide +kernel) (by decide +kernel) (by exact fun _ _ _ h => h) (by rfl) (by intro w hSw; go_simp; with_reducible rfl) hS ?_; (try simp only [Act.put, List.setIfInBounds_toArray, List.set_cons_zero, List.set_cons_succ])); (refine KS_take 5 (by kernel_rfl) (by decide +kernel) (by decide +kernel) (by exact fun _ _ _ h => h) (by rfl) (by intro w hSw; go_simp; with_reducible rfl) hS ?_; (try simp only [Act.put, List.setIfInBounds_toArray, List.set_cons_zero, List.set_cons_succ]))
  (refine KS_take 6 (by kernel_rfl) (by decide +kernel) (by decide +kernel) (by exact fun _ _ _ h => h) (by rfl) (by first | exact KS_load1 _ _ rfl _ _ rfl | exact KS_load _ _ rfl _ _ rfl) hS ?_; (try simp only [Act.put, List.setIfInBounds_toArray, List.set_cons_zero, List.set_cons_succ]))
  (refine KS_take 7 (by kernel_rfl) (by decide +kernel) (by decide +kernel) (by exact fun _ _ _ h => h) (by rfl) (by first | exact KS_load1 _ _ rfl _ _ rfl | exact KS_load _ _ rfl _ _ rfl) hS ?_; (try simp only [Act.put, List.setIfInBounds_toArray, List.set_cons_zero, List.set_cons_succ]))
  (refine KS_one 8 (by decide +kernel) (by rfl) (fun K hk => ?_); (go_simp; (go_at_call 46; refine (HS.out _ _ hK).mono ?_; rintro r w1 ⟨rfl, N', hN', hK'⟩; (try clear hK); have hK := hK'; clear hK'; dsimp only)); (refine hk.out _ _ hK.subs (fun hS => ?_); clear hk K; (try simp only [Act.put, List.setIfInBounds_toArray, List.set_cons_zero, List.set_cons_succ])))
  (refine KS_take 9 (by kernel_rfl) (by decide +kernel) (by decide +kernel) (by exact fun _ _ _ h => h) (by rfl) (by intro w hSw; go_simp; with_reducible rfl) hS ?_; (try simp only [Act.put, List.setIfInBounds_toArray, List.set_cons_zero, List.set_cons_succ]))
  (refine wpAnyH_done (by kernel_rfl) ?_ _)
  go_wp2_with (first | ((with_reducible change wpList _ _ _ (_ :: _) _ _); first | ((with_reducible change wpList _ _ _ (Oper.mk _ (Op.load _ _) _ _ _ _ :: _) _ _); first | (refine KL_load1 hK (by rfl) _ _ rfl _ _ rfl ?_) | (refine KL_load hK (by rfl) _ _ rfl _ _ rfl ?_)) | ((with_reducible change wpList _ _ _ (Oper.mk _ (Op.store _ _ _) _ _ _ _ :: _) _ _); first | (refine KL_store1 hK (by rfl) _ _ _ rfl _ _ rfl _ (by conv => lhs; whnf) (by rfl) ?_; clear hK; intro w hK) | (refine KL_store hK (by rfl) _ _ _ rfl _ _ rfl _ rfl ?_; clear hK; intro w hK)) | ((with_reducible change wpList _ _ _ (Oper.mk _ (Op.alloc _) _ _ _ _ :: _) _ _); refine KL_alloc hK (by rfl) _ rfl ?_; clear hK; intro b w hK) | ((with_reducible change wpList _ _ _ (Oper.mk _ (Op.box _ _) _ _ _ _ :: _) _ _); refine KL_box hK (by rfl) _ _ rfl _ (by conv => lhs; whnf) ?_; clear hK; intro b w hK) | ((with_reducible change wpList _ _ _ (Oper.mk _ (Op.build _ _) _ _ _ _ :: _) _ _); first | (refine KL_build0 (by rfl) _ rfl ?_) | (refine KL_build1 (by rfl) _ _ _ rfl _ (by conv => lhs; whnf) ?_) | (refine KL_build2 (by rfl) _ _ _ _ _ rfl _ (by conv => lhs; whnf) _ (by conv => lhs; whnf) ?_) | (refine KL_build3 (by rfl) _ _ _ _ _ _ _ rfl _ (by conv => lhs; whnf) _ (by conv => lhs; whnf) _ (by conv => lhs; whnf) ?_) | (refine KL_build4 (by rfl) _ _ _ _ _ _ _ _ _ rfl _ (by conv => lhs; whnf) _ (by conv => lhs; whnf) _ (by conv => lhs; whnf) _ (by conv => lhs; whnf) ?_) | (refine KL_build5 (by rfl) _ _ _ _ _ _ _ _ _ _ _ rfl _ (by conv => lhs; whnf) _ (by conv => lhs; whnf) _ (by conv => lhs; whnf) _ (by conv => lhs; whnf) _ (by conv => lhs; whnf) ?_)) | ((with_reducible change wpList _ _ _ (Oper.mk _ (Op.binOp _ _ _ _ _) _ _ _ _ :: _) _ _); refine KL_cmp (by rfl) _ _ _ _ _ rfl _ _ rfl rfl ?_) | ((with_reducible change wpList _ _ _ (Oper.mk _ (Op.call _) _ _ _ _ :: _) _ _); refine KL_copy hK (by rfl) _ _ _ _ rfl _ _ _ _ _ _ _ _ rfl rfl _ _ (by first | exact Nat.min_eq_left (by first | decide | omega) | exact Nat.min_eq_right (by first | decide | omega)) (by first | exact Nat.mul_one _ | (conv => lhs; simp only [Nat.reduceMul])) ?_; clear hK; intro w hK) | ((with_reducible change wpList _ _ _ (Oper.mk _ (Op.index _ _ _) _ _ _ _ :: _) _ _); refine KL_index (by rfl) _ _ _ rfl _ rfl _ rfl _ (by conv => lhs; simp only [Int.reduceToNat, Int.toNat_natCast]) (by first | decide | omega) (by first | decide | omega) ?_) | ((with_reducible change wpList _ _ _ (Oper.mk _ (Op.sliceToArrayPointer _ _) _ _ _ _ :: _) _ _); refine KL_arr (by rfl) _ _ rfl _ _ _ rfl (by first | decide | omega) ?_)) | (go_at_call 70; refine (HC.out _ _ _ hN' hK).mono ?_; rintro r w1 ⟨rfl, M', hM', hK'⟩; clear hK; have hK := hK'; clear hK'))
  go_ret
  exact ⟨rfl, _, hM', hK⟩
theorem del_c (k : Ky) : ∀ {d : Nat} {F : Nat → Prop} {w0 w : World} {L M : Mem} {p : Value} {t : Tr d}, Kn F w0 w (M ++ L) → Rep d t p M → GoodD d t k.n → Calls Try.prog 46 #[p, .agg (U k.b).toArray] w (PutRet F w0 L d (delT d t k.n) p (.bool (wasT d t k.n)))
  | 0, _, _, _, _, _, _, _, hK, hR, hg => del0_c k hK hR hg
  | _ + 1, _, _, _, _, _, _, _, hK, hR, hg => delI_c (fun h1 h2 h3 => del_c k h1 h2 h3) hK hR hg
end Go.Proofs.Ytpkhomfblilkhaa.E
