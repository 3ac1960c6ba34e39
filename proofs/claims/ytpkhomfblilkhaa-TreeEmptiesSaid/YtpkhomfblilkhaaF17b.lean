/- inner.mend walked: neighbours joined. -/
import Derived.Test.YtpkhomfblilkhaaF17
import Derived.Deep.DeepCutAuto
namespace Go.Proofs.Ytpkhomfblilkhaa.E
set_option linter.all false
open Go Go.RowKit

set_option maxRecDepth 20000 in
set_option maxHeartbeats 6400000 in
theorem mend1_c {F : Nat → Prop} {w0 w : World} {L M : Mem} {b d i : Nat} {t : Tr (d + 1)} (hK : Kn F w0 w (M ++ L)) (hR : Rep (d + 1) t (.iface 103 (.pointer (some ⟨b, 0, none⟩))) M) (hi : i < t.2.length) (hc : ¬ (least d ≤ sz d t.2[i] ∨ t.2.length < 2))
    (hkl : t.2.length = t.1.length + 1) (hn : t.2.length ≤ 50) (hok : ∀ u ∈ t.2, Ok d u) (hoj : ∀ a b k, a ∈ t.2 → b ∈ t.2 → t.2[i - 1]? = some a → t.2[i - 1 + 1]? = some b → t.1[i - 1]? = some k → Ok d (joinT d a b k)) :
    Calls Try.prog 70 #[.pointer (some ⟨b, 0, none⟩), .int .i64 i] w (PutRet F w0 L (d + 1) (mendT d t i) (.iface 103 (.pointer (some ⟨b, 0, none⟩))) (.tuple #[])) := by
  obtain ⟨res, hres⟩ : ∃ r, r = mendT d t i := ⟨_, rfl⟩
  obtain ⟨j, hj⟩ : ∃ j, j = i - 1 := ⟨_, rfl⟩
  have h1 : j < t.1.length := by omega
  have h3 : j + 1 < t.2.length := by omega
  have hres2 := hres.trans (mend_yes hi hc hj h3 h1)
  rw [← hj] at hoj
  have hoc := hoj _ _ _ (List.getElem_mem (show j < t.2.length by omega)) (List.getElem_mem h3) (List.getElem?_eq_getElem (show j < t.2.length by omega)) (List.getElem?_eq_getElem h3) (List.getElem?_eq_getElem h1)
  rw [← hres]
  obtain ⟨b', vk, Mk, vp, Mp, ps, MM, hbb, hVk, hVp, hMM, rfl⟩ := hR
  cases hbb
  obtain ⟨ks, kids⟩ := t
  dsimp only at hVk hVp hMM hi hc hkl hn hok hoj h1 h3 hoc hres2
  obtain ⟨gp, cp, jp, rfl, rfl, hxp, hcp, hnp, hmp⟩ := hVp.pos (by omega)
  obtain ⟨gk, ck, jk, rfl, rfl, hxk, hck, hnk, hmk⟩ := hVk.pos (by omega)
  have hpl := hMM.len
  have honeP := hMM.one
  obtain ⟨A2, N2, B2, q, hMe2, hq, hQ, _, _⟩ := hMM.at hi
  obtain ⟨A, Na, B', pa, hMe, hpa, hRa, hA, hB'⟩ := hMM.at (show j < kids.length by omega)
  rw [List.drop_eq_getElem_cons h3, List.drop_eq_getElem_cons (show j + 1 < ps.length by omega)] at hB'
  obtain ⟨pb, hpb⟩ : ∃ pb, pb = ps[j + 1]'(by omega) := ⟨_, rfl⟩
  have hpb' : ps[j + 1]? = some pb := by rw [hpb]; exact List.getElem?_eq_getElem _
  rw [← hpb] at hB'
  obtain ⟨Nb, B, rfl, hRb, hB⟩ : ∃ Nb B, B' = Nb ++ B ∧ Rep d kids[j + 1] pb Nb ∧ Reps (Rep d) (kids.drop (j + 2)) (ps.drop (j + 2)) B := by
    cases hB' with
    | cons h1 h2 => exact ⟨_, _, rfl, h1, h2⟩
  obtain ⟨T, bq, rfl⟩ := hQ.iface
  obtain ⟨Ta, ba, rfl⟩ := hRa.iface
  obtain ⟨Tb, bb, rfl⟩ := hRb.iface
  obtain ⟨u, hu⟩ : ∃ u, u = kids[i] := ⟨_, rfl⟩
  obtain ⟨c, hcc⟩ : ∃ c, c = joinT d kids[j] kids[j + 1] ks[j] := ⟨_, rfl⟩
  rw [← hu] at hQ hc
  rw [← hcc] at hres2 hoc
  obtain ⟨k, hk⟩ : ∃ k, k = ks[j] := ⟨_, rfl⟩
  rw [← hk] at hcc
  have oa := hok _ (List.getElem_mem (show j < kids.length by omega))
  have ob := hok _ (List.getElem_mem h3)
  obtain ⟨ta, hta⟩ : ∃ ta, ta = kids[j] := ⟨_, rfl⟩
  obtain ⟨tb, htb⟩ : ∃ tb, tb = kids[j + 1] := ⟨_, rfl⟩
  rw [← hta] at hRa oa hcc
  rw [← htb] at hRb ob hcc
  haveI hat : At (ps ++ jp) i (.iface T (.pointer (some ⟨bq, 0, none⟩))) := ⟨by rw [List.getElem?_append_left (by omega)]; exact hq⟩
  haveI hata : At (ps ++ jp) j (.iface Ta (.pointer (some ⟨ba, 0, none⟩))) := ⟨by rw [List.getElem?_append_left (by omega)]; exact hpa⟩
  haveI hatb : At (ps ++ jp) (j + 1) (.iface Tb (.pointer (some ⟨bb, 0, none⟩))) := ⟨by rw [List.getElem?_append_left (by omega)]; exact hpb'⟩
  haveI hpk : Part (rows rK ks ++ jk) (j * 40) 40 (U k.b) := hk ▸ rows_at hxk h1
  have hK1 : Kn F w0 w ((b, 106, [.slice (some ⟨gk, 0, none⟩) ks.length ck, .slice (some ⟨gp, 0, none⟩) kids.length cp]) :: (gk, 23, rows rK ks ++ jk) :: (gp, 37, ps ++ jp) :: (MM ++ L)) := (Kn.mv hK [] (fun f => by simp only [wt_append, wt_cons, wt_nil]; omega))
  have hJ : ∀ w, Kn F w0 w ((b, 106, [.slice (some ⟨gk, 0, none⟩) ks.length ck, .slice (some ⟨gp, 0, none⟩) kids.length cp]) :: (gk, 23, rows rK ks ++ jk) :: (gp, 37, ps ++ jp) :: (MM ++ L)) →
      Calls Try.prog 99 #[.iface Ta (.pointer (some ⟨ba, 0, none⟩)), .iface Tb (.pointer (some ⟨bb, 0, none⟩)), .agg (U k.b).toArray] w fun r w' => r = .returned (.tuple #[]) ∧ ∃ Nc, Rep d c (.iface Ta (.pointer (some ⟨ba, 0, none⟩))) Nc ∧ Kn F w0 w' ((b, 106, [.slice (some ⟨gk, 0, none⟩) ks.length ck, .slice (some ⟨gp, 0, none⟩) kids.length cp]) :: (gk, 23, rows rK ks ++ jk) :: (gp, 37, ps ++ jp) :: (A ++ (Nc ++ (B ++ L)))) := fun w h => by
    rw [hMe, List.append_assoc, List.append_assoc, List.append_assoc] at h
    rw [hcc]
    refine (join_c h.jn hRa hRb oa ob).mono ?_
    rintro r w' ⟨rfl, Nc, hNc, h'⟩
    exact ⟨rfl, Nc, hNc, h'.jn'⟩
  have h1k := rows_one rK_one ks
  have hDK : ∀ w Nc, Kn F w0 w ((b, 106, [.slice (some ⟨gk, 0, none⟩) ks.length ck, .slice (some ⟨gp, 0, none⟩) kids.length cp]) :: (gk, 23, rows rK ks ++ jk) :: (gp, 37, ps ++ jp) :: (A ++ (Nc ++ (B ++ L)))) →
      Calls Try.prog 100 #[.slice (some ⟨gk, 0, none⟩) ks.length ck, .int .i64 j, .int .i64 ((j : Int) + 1)] w fun r w' => ∃ v' M', r = .returned v' ∧ Sl 23 40 (ks.length - 1) (rows rK (ks.take j ++ ks.drop (j + 1))) v' M' ∧ Kn F w0 w' ((b, 106, [.slice (some ⟨gk, 0, none⟩) ks.length ck, .slice (some ⟨gp, 0, none⟩) kids.length cp]) :: (gp, 37, ps ++ jp) :: (M' ++ (A ++ (Nc ++ (B ++ L))))) := fun w Nc h => by
    have h0 : Kn F w0 w ((gk, 23, rows rK ks ++ jk) :: (b, 106, [.slice (some ⟨gk, 0, none⟩) ks.length ck, .slice (some ⟨gp, 0, none⟩) kids.length cp]) :: (gp, 37, ps ++ jp) :: (A ++ (Nc ++ (B ++ L)))) := (Kn.mv h [] (fun f => by simp only [wt_append, wt_cons, wt_nil]; omega))
    refine (delK_c h0 hxk hck hmk hnk h1 (by omega) h1k).mono ?_
    rintro r w' ⟨v', M', rfl, hS, h'⟩
    rw [rows_del rK_len] at hS
    exact ⟨v', M', rfl, hS, h'.dn2⟩
  have hDP : ∀ w v' Mk' Nc, Kn F w0 w ((b, 106, [v', .slice (some ⟨gp, 0, none⟩) kids.length cp]) :: (gp, 37, ps ++ jp) :: (Mk' ++ (A ++ (Nc ++ (B ++ L))))) →
      Calls Try.prog 101 #[.slice (some ⟨gp, 0, none⟩) kids.length cp, .int .i64 ((j : Int) + 1), .int .i64 ((j : Int) + 2)] w fun r w' => ∃ v'' M', r = .returned v'' ∧ Sl 37 1 (kids.length - 1) (ps.take (j + 1) ++ ps.drop (j + 2)) v'' M' ∧ Kn F w0 w' ((b, 106, [v', .slice (some ⟨gp, 0, none⟩) kids.length cp]) :: (Mk' ++ (M' ++ (A ++ (Nc ++ (B ++ L)))))) := fun w v' Mk' Nc h => by
    have h0 : Kn F w0 w ((gp, 37, ps ++ jp) :: (b, 106, [v', .slice (some ⟨gp, 0, none⟩) kids.length cp]) :: (Mk' ++ (A ++ (Nc ++ (B ++ L))))) := (Kn.mv h [] (fun f => by simp only [wt_append, wt_cons, wt_nil]; omega))
    have := (delP_c (i := j + 1) h0 (by omega) (by omega) (by omega) hnp h3 (by omega) honeP)
    refine this.mono ?_
    rintro r w' ⟨v'', M', rfl, hS, h'⟩
    exact ⟨v'', M', rfl, hS, (Kn.mv h' [] (fun f => by simp only [wt_append, wt_cons, wt_nil]; omega))⟩
  have hCUT : ∀ w v' Mk' v'' Mp' Nc, Sl 23 40 (ks.length - 1) (rows rK (ks.take j ++ ks.drop (j + 1))) v' Mk' → Sl 37 1 (kids.length - 1) (ps.take (j + 1) ++ ps.drop (j + 2)) v'' Mp' → Rep d c (.iface Ta (.pointer (some ⟨ba, 0, none⟩))) Nc → Kn F w0 w ((b, 106, [v', v'']) :: (Mk' ++ (Mp' ++ (A ++ (Nc ++ (B ++ L)))))) →
      Calls Try.prog 65 #[.pointer (some ⟨b, 0, none⟩), .int .i64 j] w (PutRet F w0 L (d + 1) res (.iface 103 (.pointer (some ⟨b, 0, none⟩))) (.tuple #[])) := fun w v' Mk' v'' Mp' Nc hSk hSp hNc h => by
    have h0 : Kn F w0 w (((b, 106, [v', v'']) :: (Mk' ++ (Mp' ++ (A ++ (Nc ++ B))))) ++ L) := (Kn.mv h [] (fun f => by simp only [wt_append, wt_cons, wt_nil]; omega))
    have l1 : (ks.take j ++ ks.drop (j + 1)).length = ks.length - 1 := by rw [List.length_append, List.length_take, List.length_drop]; omega
    have l2 : (kids.take j ++ c :: kids.drop (j + 2)).length = kids.length - 1 := by rw [List.length_append, List.length_cons, List.length_take, List.length_drop]; omega
    have e2 : ps.take (j + 1) ++ ps.drop (j + 2) = ps.take j ++ (.iface Ta (.pointer (some ⟨ba, 0, none⟩)) :: ps.drop (j + 2)) := by
      rw [List.take_add_one, hpa]; simp
    rw [e2] at hSp
    rw [hres2]
    have hlj : (kids.take j).length = j := by rw [List.length_take]; omega
    refine icut_c (t := (ks.take j ++ ks.drop (j + 1), kids.take j ++ c :: kids.drop (j + 2))) h0 ⟨b, v', Mk', v'', Mp', _, A ++ (Nc ++ B), rfl, hSk.cg l1.symm rfl, hSp.cg l2.symm rfl, hA.app (.cons hNc hB), rfl⟩ (by dsimp only; omega) ?_ (by dsimp only; omega) (by dsimp only; omega)
    dsimp only
    have : (kids.take j ++ c :: kids.drop (j + 2))[j]? = some c := elem_at rfl hlj
    rw [List.getElem?_eq_getElem (by omega)] at this
    rw [Option.some.inj this]
    exact hoc
  have HJ := Lib.hid hJ
  have HDK := Lib.hid hDK
  have HDP := Lib.hid hDP
  have HCUT := Lib.hid hCUT
  have hX : ∀ w', Kn F w0 w' ((b, 106, [.slice (some ⟨gk, 0, none⟩) ks.length ck, .slice (some ⟨gp, 0, none⟩) kids.length cp]) :: (gk, 23, rows rK ks ++ jk) :: (gp, 37, ps ++ jp) :: (MM ++ L)) ↔ Kn F w0 w' (N2 ++ ((b, 106, [.slice (some ⟨gk, 0, none⟩) ks.length ck, .slice (some ⟨gp, 0, none⟩) kids.length cp]) :: (gk, 23, rows rK ks ++ jk) :: (gp, 37, ps ++ jp) :: (A2 ++ (B2 ++ L)))) := fun w' => by
    rw [hMe2]
    exact ⟨fun h => (Kn.mv h [] (fun f => by simp only [wt_append, wt_cons, wt_nil]; omega)), fun h => (Kn.mv h [] (fun f => by simp only [wt_append, wt_cons, wt_nil]; omega))⟩
  have hi' : (i : Int) < kids.length := by omega
  have hw0 : IntKind.i64.wrap ((i : Int) - 1) = (i : Int) - 1 := by rw [IntKind.wrap_i64]; omega
  have HM1 := Lib.hid (show (i : Int) - 1 < 0 → (0 : Int) = (j : Int) by omega)
  have HM2 := Lib.hid (show ¬ (i : Int) - 1 < 0 → (i : Int) - 1 = (j : Int) by omega)
  obtain ⟨FR, hFR⟩ : ∃ FR : Mem, FR = (b, 106, [.slice (some ⟨gk, 0, none⟩) ks.length ck, .slice (some ⟨gp, 0, none⟩) kids.length cp]) :: (gk, 23, rows rK ks ++ jk) :: (gp, 37, ps ++ jp) :: (MM ++ L) := ⟨_, rfl⟩
  have hw1 : IntKind.i64.wrap ((j : Int) + 1) = (j : Int) + 1 := by rw [IntKind.wrap_i64]; omega
  have hw2 : IntKind.i64.wrap ((j : Int) + 2) = (j : Int) + 2 := by rw [IntKind.wrap_i64]; omega
  have hz1 : (0 : Int) ≤ (j : Int) + 1 := by omega
  have ht1 : ((j : Int) + 1).toNat = j + 1 := by omega
  have hb0 : (j : Int) < kids.length := by omega
  have hb1 : (j : Int) + 1 < kids.length := by omega
  have hb2 : (j : Int) < ks.length := by omega
  have hcl : ((sz d u : Nat) : Int) < (least d : Nat) := by omega
  have hc2 : ¬ (kids.length : Int) < 2 := by omega
  have HFR := Lib.hid hFR
  clear hj hFR hK hJ hDK hDP hCUT hres hres2 hcc hk hu hta htb hMe hMe2 hoj hok hoc oa ob hpl honeP h1k hB hA hRa hRb hpb hpb' hpa hq hkl hn hc
  have hK := hK1
  clear hK1
  cases d with
  | zero =>
    have hT : T = 109 := by obtain ⟨b', v, Mv, hb, hV, rfl⟩ := hQ; cases hb; rfl
    subst hT
    have hL : ∀ w, Kn F w0 w ((b, 106, [.slice (some ⟨gk, 0, none⟩) ks.length ck, .slice (some ⟨gp, 0, none⟩) kids.length cp]) :: (gk, 23, rows rK ks ++ jk) :: (gp, 37, ps ++ jp) :: (MM ++ L)) → Calls Try.prog 78 #[.pointer (some ⟨bq, 0, none⟩)] w (LitRet F w0 ((b, 106, [.slice (some ⟨gk, 0, none⟩) ks.length ck, .slice (some ⟨gp, 0, none⟩) kids.length cp]) :: (gk, 23, rows rK ks ++ jk) :: (gp, 37, ps ++ jp) :: (MM ++ L)) (sz 0 u) 0) := fun w h => by
      refine (llit_r hQ ((hX w).1 h)).mono ?_
      rintro r w' ⟨rfl, h'⟩
      exact ⟨rfl, (hX w').2 h'⟩
    have HL := Lib.hid hL
    clear hL hX
    go_enter Try.func70, Try.ntmps70
    go_upto_region 1 with (first | ((with_reducible change wpList _ _ _ (_ :: _) _ _); first | ((with_reducible change wpList _ _ _ (Oper.mk _ (Op.load _ _) _ _ _ _ :: _) _ _); first | (refine KL_load1 hK (by rfl) _ _ rfl _ _ rfl ?_) | (refine KL_load hK (by rfl) _ _ rfl _ _ rfl ?_)) | ((with_reducible change wpList _ _ _ (Oper.mk _ (Op.store _ _ _) _ _ _ _ :: _) _ _); first | (refine KL_store1 hK (by rfl) _ _ _ rfl _ _ rfl _ (by conv => lhs; whnf) (by rfl) ?_; clear hK; intro w hK) | (refine KL_store hK (by rfl) _ _ _ rfl _ _ rfl _ rfl ?_; clear hK; intro w hK)) | ((with_reducible change wpList _ _ _ (Oper.mk _ (Op.alloc _) _ _ _ _ :: _) _ _); refine KL_alloc hK (by rfl) _ rfl ?_; clear hK; intro b w hK) | ((with_reducible change wpList _ _ _ (Oper.mk _ (Op.box _ _) _ _ _ _ :: _) _ _); refine KL_box hK (by rfl) _ _ rfl _ (by conv => lhs; whnf) ?_; clear hK; intro b w hK) | ((with_reducible change wpList _ _ _ (Oper.mk _ (Op.build _ _) _ _ _ _ :: _) _ _); first | (refine KL_build0 (by rfl) _ rfl ?_) | (refine KL_build1 (by rfl) _ _ _ rfl _ (by conv => lhs; whnf) ?_) | (refine KL_build2 (by rfl) _ _ _ _ _ rfl _ (by conv => lhs; whnf) _ (by conv => lhs; whnf) ?_) | (refine KL_build3 (by rfl) _ _ _ _ _ _ _ rfl _ (by conv => lhs; whnf) _ (by conv => lhs; whnf) _ (by conv => lhs; whnf) ?_) | (refine KL_build4 (by rfl) _ _ _ _ _ _ _ _ _ rfl _ (by conv => lhs; whnf) _ (by conv => lhs; whnf) _ (by conv => lhs; whnf) _ (by conv => lhs; whnf) ?_) | (refine KL_build5 (by rfl) _ _ _ _ _ _ _ _ _ _ _ rfl _ (by conv => lhs; whnf) _ (by conv => lhs; whnf) _ (by conv => lhs; whnf) _ (by conv => lhs; whnf) _ (by conv => lhs; whnf) ?_)) | ((with_reducible change wpList _ _ _ (Oper.mk _ (Op.binOp _ _ _ _ _) _ _ _ _ :: _) _ _); refine KL_cmp (by rfl) _ _ _ _ _ rfl _ _ rfl rfl ?_) | ((with_reducible change wpList _ _ _ (Oper.mk _ (Op.call _) _ _ _ _ :: _) _ _); refine KL_copy hK (by rfl) _ _ _ _ rfl _ _ _ _ _ _ _ _ rfl rfl _ _ (by first | exact Nat.min_eq_left (by first | decide | omega) | exact Nat.min_eq_right (by first | decide | omega)) (by first | exact Nat.mul_one _ | (conv => lhs; simp only [Nat.reduceMul])) ?_; clear hK; intro w hK) | ((with_reducible change wpList _ _ _ (Oper.mk _ (Op.index _ _ _) _ _ _ _ :: _) _ _); refine KL_index (by rfl) _ _ _ rfl _ rfl _ rfl _ (by conv => lhs; simp only [Int.reduceToNat, Int.toNat_natCast]) (by first | decide | omega) (by first | decide | omega) ?_) | ((with_reducible change wpList _ _ _ (Oper.mk _ (Op.sliceToArrayPointer _ _) _ _ _ _ :: _) _ _); refine KL_arr (by rfl) _ _ rfl _ _ _ rfl (by first | decide | omega) ?_)) | (go_at_call 78; refine (HL.out _ hK).mono ?_; rintro r w1 ⟨rfl, hK'⟩; clear hK; have hK := hK'; clear hK'))
    go_cut [1] (fun s wx => s = .int .i64 (j : Nat) ∧ Kn F w0 wx FR)
    case first =>
      rw [← HFR.out] at hK
      by_cases h0 : (i : Int) - 1 < 0
      · have e0 := HM1.out (by omega)
        have E0 := Lib.hid e0
        clear e0
        go_wp2_with fail
        go_meet
        exact ⟨congrArg _ E0.out, hK⟩
      · have e0 := HM2.out (by omega)
        have E0 := Lib.hid e0
        clear e0
        go_wp2_with fail
        go_meet
        exact ⟨congrArg _ E0.out, hK⟩
    case rest =>
      obtain ⟨rfl, hK2⟩ := hcut
      rw [HFR.out] at hK2
      clear hK
      have hK := hK2
      clear hK2 HFR
      go_wp2_with fail
      ((refine wp_region_sub hK [(b, 106, [.slice (some ⟨gk, 0, none⟩) ks.length ck, .slice (some ⟨gp, 0, none⟩) kids.length cp]), (gk, 23, rows rK ks ++ jk), (gp, 37, ps ++ jp)] (by kernel_rfl) ?_; (try clear hK); intro w hK hS); (refine KS_take 0 (by kernel_rfl) (by decide +kernel) (by decide +kernel) (by exact fun _ _ _ h => h) (by rfl) (by intro w hSw; go_simp; with_reducible rfl) hS ?_; (try simp only [Act.put, List.setIfInBounds_toArray, List.set_cons_zero, List.set_cons_succ])); (refine KS_take 1 (by kernel_rfl) (by decide +kernel) (by decide +kernel) (by exact fun _ _ _ h => h) (by rfl) (by intro w hSw; go_simp; with_reducible rfl) hS ?_; (try simp only [Act.put, List.setIfInBounds_toArray, List.set_cons_zero, List.set_cons_succ])); (refine KS_take 2 (by kernel_rfl) (by decide +kernel) (by decide +kernel) (by exact fun _ _ _ h => h) (by rfl) (by intro w hSw; go_simp; with_reducible rfl) hS ?_; (try simp only [Act.put, List.setIfInBounds_toArray, List.set_cons_zero, List.set_cons_succ])); (refine KS_take 4 (by kernel_rfl) (by decide +kernel) (by decide +kernel) (by exact fun _ _ _ h => h) (by rfl) (by intro w hSw; go_simp; with_reducible rfl) hS ?_; (try simp only [Act.put, List.setIfInBounds_toArray, List.set_cons_zero, List.set_cons_succ])); (refine KS_take 7 (by kernel_rfl) (by decide +kernel) (by decide +kernel) (by exact fun _ _ _ h => h) (by rfl) (by intro w hSw; go_simp; with_reducible rfl) hS ?_; (try simp only [Act.put, List.setIfInBounds_toArray, List.set_cons_zero, List.set_cons_succ])); (refine KS_take 8 (by kernel_rfl) (by decide +kernel) (by decide +kernel) (by exact fun _ _ _ h => h) (by rfl) (by intro w hSw; go_simp; with_reducible rfl) hS ?_; (try simp only [Act.put, List.setIfInBounds_toArray, List.set_cons_zero, List.set_cons_succ])); (refine KS_take 9 (by kernel_rfl) (by decide +kernel) (by decide +kernel) (by exact fun _ _ _ h => h) (by rfl) (by intro w hSw; go_simp; with_reducible rfl) hS ?_; (try simp only [Act.put, List.setIfInBounds_toArray, List.set_cons_zero, List.set_cons_succ])); (refine KS_take 11 (by kernel_rfl) (by decide +kernel) (by decide +kernel) (by exact fun _ _ _ h => h) (by rfl) (by intro w hSw; go_simp; with_reducible rfl) hS ?_; (try simp only [Act.put, List.setIfInBounds_toArray, List.set_cons_zero, List.set_cons_succ])); (refine KS_take 12 (by kernel_rfl) (by decide +kernel) (by decide +kernel) (by exact fun _ _ _ h => h) (by rfl) (by intro w hSw; go_simp; with_reducible rfl) hS ?_; (try simp only [Act.put, List.setIfInBounds_toArray, List.set_cons_zero, List.set_cons_succ])); (refine KS_take 15 (by kernel_rfl) (by decide +kernel) (by decide +kernel) (by exact fun _ _ _ h => h) (by rfl) (by intro w hSw; go_simp; with_reducible rfl) hS ?_; (try simp only [Act.put, List.setIfInBounds_toArray, List.set_cons_zero, List.set_cons_succ])); (refine KS_take 16 (by kernel_rfl) (by decide +kernel) (by decide +kernel) (by exact fun _ _ _ h => h) (by rfl) (by intro w hSw; go_simp; with_reducible rfl) hS ?_; (try simp only [Act.put, List.setIfInBounds_toArray, List.set_cons_zero, List.set_cons_succ])); (refine KS_take 17 (by kernel_rfl) (by decide +kernel) (by decide +kernel) (by exact fun _ _ _ h => h) (by rfl) (by intro w hSw; go_simp; with_reducible rfl) hS ?_; (try simp only [Act.put, List.setIfInBounds_toArray, List.set_cons_zero, List.set_cons_succ])); (refine KS_take 19 (by kernel_rfl) (by decide +kernel) (by decide +kernel) (by exact fun _ _ _ h => h) (by rfl) (by intro w hSw; go_simp; with_reducible rfl) hS ?_; (try simp only [Act.put, List.setIfInBounds_toArray, List.set_cons_zero, List.set_cons_succ])); (refine KS_take 3 (by kernel_rfl) (by decide +kernel) (by decide +kernel) (by exact fun _ _ _ h => h) (by rfl) (by first | exact KS_load1 _ _ rfl _ _ rfl | exact KS_load _ _ rfl _ _ rfl) hS ?_; (try simp only [Act.put, List.setIfInBounds_toArray, List.set_cons_zero, List.set_cons_succ])); (refine KS_take 10 (by kernel_rfl) (by decide +kernel) (by decide +kernel) (by exact fun _ _ _ h => h) (by rfl) (by first | exact KS_load1 _ _ rfl _ _ rfl | exact KS_load _ _ rfl _ _ rfl) hS ?_; (try simp only [Act.put, List.setIfInBounds_toArray, List.set_cons_zero, List.set_cons_succ])); (refine KS_take 18 (by kernel_rfl) (by decide +kernel) (by decide +kernel) (by exact fun _ _ _ h => h) (by rfl) (by first | exact KS_load1 _ _ rfl _ _ rfl | exact KS_load _ _ rfl _ _ rfl) hS ?_; (try simp only [Act.put, List.setIfInBounds_toArray, List.set_cons_zero, List.set_cons_succ])); (refine KS_take 5 (by kernel_rfl) (by decide +kernel) (by decide +kernel) (by exact fun _ _ _ h => h) (by rfl) (by intro w hSw; go_simp; with_reducible rfl) hS ?_; (try simp only [Act.put, List.setIfInBounds_toArray, List.set_cons_zero, List.set_cons_succ])); (refine KS_take 13 (by kernel_rfl) (by decide +kernel) (by decide +kernel) (by exact fun _ _ _ h => h) (by rfl) (by intro w hSw; go_simp; with_reducible rfl) hS ?_; (try simp only [Act.put, List.setIfInBounds_toArray, List.set_cons_zero, List.set_cons_succ])); (refine KS_take 20 (by kernel_rfl) (by decide +kernel) (by decide +kernel) (by exact fun _ _ _ h => h) (by rfl) (by intro w hSw; go_simp; with_reducible rfl) hS ?_; (try simp only [Act.put, List.setIfInBounds_toArray, List.set_cons_zero, List.set_cons_succ])); (refine KS_take 6 (by kernel_rfl) (by decide +kernel) (by decide +kernel) (by exact fun _ _ _ h => h) (by rfl) (by first | exact KS_load1 _ _ rfl _ _ rfl | exact KS_load _ _ rfl _ _ rfl) hS ?_; (try simp only [Act.put, List.setIfInBounds_toArray, List.set_cons_zero, List.set_cons_succ])); (refine KS_take 14 (by kernel_rfl) (by decide +kernel) (by decide +kernel) (by exact fun _ _ _ h => h) (by rfl) (by first | exact KS_load1 _ _ rfl _ _ rfl | exact KS_load _ _ rfl _ _ rfl) hS ?_; (try simp only [Act.put, List.setIfInBounds_toArray, List.set_cons_zero, List.set_cons_succ])); (refine KS_take 21 (by kernel_rfl) (by decide +kernel) (by decide +kernel) (by exact fun _ _ _ h => h) (by rfl) (by first | exact KS_load1 _ _ rfl _ _ rfl | exact KS_load _ _ rfl _ _ rfl) hS ?_; (try simp only [Act.put, List.setIfInBounds_toArray, List.set_cons_zero, List.set_cons_succ])); (refine KS_one 22 (by decide +kernel) (by rfl) (fun K hk => ?_); (go_simp; (go_at_call 99; refine (HJ.out _ hK).mono ?_; rintro r w1 ⟨rfl, Nc, hNc, hK'⟩; (try clear hK); have hK := hK'; clear hK'; dsimp only)); (refine hk.out _ _ hK.subs (fun hS => ?_); clear hk K; (try simp only [Act.put, List.setIfInBounds_toArray, List.set_cons_zero, List.set_cons_succ]))); (refine wpAnyH_done (by kernel_rfl) ?_ _); go_wp2_with (first | (go_at_call 100; refine (HDK.out _ _ hK).mono ?_; rintro r w1 ⟨vk', Mk', rfl, hSk, hK'⟩; clear hK; have hK := hK'; clear hK') | (go_at_call 101; refine (HDP.out _ _ _ _ hK).mono ?_; rintro r w1 ⟨vp', Mp', rfl, hSp, hK'⟩; clear hK; have hK := hK'; clear hK') | (go_at_call 65; refine (HCUT.out _ _ _ _ _ _ hSk hSp hNc hK).mono ?_; rintro r w1 ⟨rfl, M', hM', hK'⟩; clear hK; have hK := hK'; clear hK') | ((with_reducible change wpList _ _ _ (_ :: _) _ _); first | ((with_reducible change wpList _ _ _ (Oper.mk _ (Op.load _ _) _ _ _ _ :: _) _ _); first | (refine KL_load1 hK (by rfl) _ _ rfl _ _ rfl ?_) | (refine KL_load hK (by rfl) _ _ rfl _ _ rfl ?_)) | ((with_reducible change wpList _ _ _ (Oper.mk _ (Op.store _ _ _) _ _ _ _ :: _) _ _); first | (refine KL_store1 hK (by rfl) _ _ _ rfl _ _ rfl _ (by conv => lhs; whnf) (by rfl) ?_; clear hK; intro w hK) | (refine KL_store hK (by rfl) _ _ _ rfl _ _ rfl _ rfl ?_; clear hK; intro w hK)) | ((with_reducible change wpList _ _ _ (Oper.mk _ (Op.alloc _) _ _ _ _ :: _) _ _); refine KL_alloc hK (by rfl) _ rfl ?_; clear hK; intro b w hK) | ((with_reducible change wpList _ _ _ (Oper.mk _ (Op.box _ _) _ _ _ _ :: _) _ _); refine KL_box hK (by rfl) _ _ rfl _ (by conv => lhs; whnf) ?_; clear hK; intro b w hK) | ((with_reducible change wpList _ _ _ (Oper.mk _ (Op.build _ _) _ _ _ _ :: _) _ _); first | (refine KL_build0 (by rfl) _ rfl ?_) | (refine KL_build1 (by rfl) _ _ _ rfl _ (by conv => lhs; whnf) ?_) | (refine KL_build2 (by rfl) _ _ _ _ _ rfl _ (by conv => lhs; whnf) _ (by conv => lhs; whnf) ?_) | (refine KL_build3 (by rfl) _ _ _ _ _ _ _ rfl _ (by conv => lhs; whnf) _ (by conv => lhs; whnf) _ (by conv => lhs; whnf) ?_) | (refine KL_build4 (by rfl) _ _ _ _ _ _ _ _ _ rfl _ (by conv => lhs; whnf) _ (by conv => lhs; whnf) _ (by conv => lhs; whnf) _ (by conv => lhs; whnf) ?_) | (refine KL_build5 (by rfl) _ _ _ _ _ _ _ _ _ _ _ rfl _ (by conv => lhs; whnf) _ (by conv => lhs; whnf) _ (by conv => lhs; whnf) _ (by conv => lhs; whnf) _ (by conv => lhs; whnf) ?_)) | ((with_reducible change wpList _ _ _ (Oper.mk _ (Op.binOp _ _ _ _ _) _ _ _ _ :: _) _ _); refine KL_cmp (by rfl) _ _ _ _ _ rfl _ _ rfl rfl ?_) | ((with_reducible change wpList _ _ _ (Oper.mk _ (Op.call _) _ _ _ _ :: _) _ _); refine KL_copy hK (by rfl) _ _ _ _ rfl _ _ _ _ _ _ _ _ rfl rfl _ _ (by first | exact Nat.min_eq_left (by first | decide | omega) | exact Nat.min_eq_right (by first | decide | omega)) (by first | exact Nat.mul_one _ | (conv => lhs; simp only [Nat.reduceMul])) ?_; clear hK; intro w hK) | ((with_reducible change wpList _ _ _ (Oper.mk _ (Op.index _ _ _) _ _ _ _ :: _) _ _); refine KL_index (by rfl) _ _ _ rfl _ rfl _ rfl _ (by conv => lhs; simp only [Int.reduceToNat, Int.toNat_natCast]) (by first | decide | omega) (by first | decide | omega) ?_) | ((with_reducible change wpList _ _ _ (Oper.mk _ (Op.sliceToArrayPointer _ _) _ _ _ _ :: _) _ _); refine KL_arr (by rfl) _ _ rfl _ _ _ rfl (by first | decide | omega) ?_)) | ((with_reducible change wpList _ _ _ (Oper.mk _ (Op.store _ _ _) _ _ _ _ :: _) _ _); refine KL_store1 hK (by rfl) _ _ _ rfl _ _ rfl _ (by conv => lhs; whnf) (Sl.one (by assumption)) ?_; clear hK; intro w hK)); go_end0; exact ⟨rfl, _, hM', hK⟩)
  | succ d =>
    have hT : T = 103 := by obtain ⟨b', vk, Mk, vp, Mp, ps, MM, hb, hVk, hVp, hMM, rfl⟩ := hQ; cases hb; rfl
    subst hT
    have hL : ∀ w, Kn F w0 w ((b, 106, [.slice (some ⟨gk, 0, none⟩) ks.length ck, .slice (some ⟨gp, 0, none⟩) kids.length cp]) :: (gk, 23, rows rK ks ++ jk) :: (gp, 37, ps ++ jp) :: (MM ++ L)) → Calls Try.prog 82 #[.pointer (some ⟨bq, 0, none⟩)] w (LitRet F w0 ((b, 106, [.slice (some ⟨gk, 0, none⟩) ks.length ck, .slice (some ⟨gp, 0, none⟩) kids.length cp]) :: (gk, 23, rows rK ks ++ jk) :: (gp, 37, ps ++ jp) :: (MM ++ L)) (sz (d + 1) u) (d + 1)) := fun w h => by
      refine (ilit_r hQ ((hX w).1 h)).mono ?_
      rintro r w' ⟨rfl, h'⟩
      exact ⟨rfl, (hX w').2 h'⟩
    have HL := Lib.hid hL
    clear hL hX
    go_enter Try.func70, Try.ntmps70
    go_upto_region 1 with (first | ((with_reducible change wpList _ _ _ (_ :: _) _ _); first | ((with_reducible change wpList _ _ _ (Oper.mk _ (Op.load _ _) _ _ _ _ :: _) _ _); first | (refine KL_load1 hK (by rfl) _ _ rfl _ _ rfl ?_) | (refine KL_load hK (by rfl) _ _ rfl _ _ rfl ?_)) | ((with_reducible change wpList _ _ _ (Oper.mk _ (Op.store _ _ _) _ _ _ _ :: _) _ _); first | (refine KL_store1 hK (by rfl) _ _ _ rfl _ _ rfl _ (by conv => lhs; whnf) (by rfl) ?_; clear hK; intro w hK) | (refine KL_store hK (by rfl) _ _ _ rfl _ _ rfl _ rfl ?_; clear hK; intro w hK)) | ((with_reducible change wpList _ _ _ (Oper.mk _ (Op.alloc _) _ _ _ _ :: _) _ _); refine KL_alloc hK (by rfl) _ rfl ?_; clear hK; intro b w hK) | ((with_reducible change wpList _ _ _ (Oper.mk _ (Op.box _ _) _ _ _ _ :: _) _ _); refine KL_box hK (by rfl) _ _ rfl _ (by conv => lhs; whnf) ?_; clear hK; intro b w hK) | ((with_reducible change wpList _ _ _ (Oper.mk _ (Op.build _ _) _ _ _ _ :: _) _ _); first | (refine KL_build0 (by rfl) _ rfl ?_) | (refine KL_build1 (by rfl) _ _ _ rfl _ (by conv => lhs; whnf) ?_) | (refine KL_build2 (by rfl) _ _ _ _ _ rfl _ (by conv => lhs; whnf) _ (by conv => lhs; whnf) ?_) | (refine KL_build3 (by rfl) _ _ _ _ _ _ _ rfl _ (by conv => lhs; whnf) _ (by conv => lhs; whnf) _ (by conv => lhs; whnf) ?_) | (refine KL_build4 (by rfl) _ _ _ _ _ _ _ _ _ rfl _ (by conv => lhs; whnf) _ (by conv => lhs; whnf) _ (by conv => lhs; whnf) _ (by conv => lhs; whnf) ?_) | (refine KL_build5 (by rfl) _ _ _ _ _ _ _ _ _ _ _ rfl _ (by conv => lhs; whnf) _ (by conv => lhs; whnf) _ (by conv => lhs; whnf) _ (by conv => lhs; whnf) _ (by conv => lhs; whnf) ?_)) | ((with_reducible change wpList _ _ _ (Oper.mk _ (Op.binOp _ _ _ _ _) _ _ _ _ :: _) _ _); refine KL_cmp (by rfl) _ _ _ _ _ rfl _ _ rfl rfl ?_) | ((with_reducible change wpList _ _ _ (Oper.mk _ (Op.call _) _ _ _ _ :: _) _ _); refine KL_copy hK (by rfl) _ _ _ _ rfl _ _ _ _ _ _ _ _ rfl rfl _ _ (by first | exact Nat.min_eq_left (by first | decide | omega) | exact Nat.min_eq_right (by first | decide | omega)) (by first | exact Nat.mul_one _ | (conv => lhs; simp only [Nat.reduceMul])) ?_; clear hK; intro w hK) | ((with_reducible change wpList _ _ _ (Oper.mk _ (Op.index _ _ _) _ _ _ _ :: _) _ _); refine KL_index (by rfl) _ _ _ rfl _ rfl _ rfl _ (by conv => lhs; simp only [Int.reduceToNat, Int.toNat_natCast]) (by first | decide | omega) (by first | decide | omega) ?_) | ((with_reducible change wpList _ _ _ (Oper.mk _ (Op.sliceToArrayPointer _ _) _ _ _ _ :: _) _ _); refine KL_arr (by rfl) _ _ rfl _ _ _ rfl (by first | decide | omega) ?_)) | (go_at_call 82; refine (HL.out _ hK).mono ?_; rintro r w1 ⟨rfl, hK'⟩; clear hK; have hK := hK'; clear hK'))
    go_cut [1] (fun s wx => s = .int .i64 (j : Nat) ∧ Kn F w0 wx FR)
    case first =>
      rw [← HFR.out] at hK
      by_cases h0 : (i : Int) - 1 < 0
      · have e0 := HM1.out (by omega)
        have E0 := Lib.hid e0
        clear e0
        go_wp2_with fail
        go_meet
        exact ⟨congrArg _ E0.out, hK⟩
      · have e0 := HM2.out (by omega)
        have E0 := Lib.hid e0
        clear e0
        go_wp2_with fail
        go_meet
        exact ⟨congrArg _ E0.out, hK⟩
    case rest =>
      obtain ⟨rfl, hK2⟩ := hcut
      rw [HFR.out] at hK2
      clear hK
      have hK := hK2
      clear hK2 HFR
      go_wp2_with fail
      ((refine wp_region_sub hK [(b, 106, [.slice (some ⟨gk, 0, none⟩) ks.length ck, .slice (some ⟨gp, 0, none⟩) kids.length cp]), (gk, 23, rows rK ks ++ jk), (gp, 37, ps ++ jp)] (by kernel_rfl) ?_; (try clear hK); intro w hK hS); (refine KS_take 0 (by kernel_rfl) (by decide +kernel) (by decide +kernel) (by exact fun _ _ _ h => h) (by rfl) (by intro w hSw; go_simp; with_reducible rfl) hS ?_; (try simp only [Act.put, List.setIfInBounds_toArray, List.set_cons_zero, List.set_cons_succ])); (refine KS_take 1 (by kernel_rfl) (by decide +kernel) (by decide +kernel) (by exact fun _ _ _ h => h) (by rfl) (by intro w hSw; go_simp; with_reducible rfl) hS ?_; (try simp only [Act.put, List.setIfInBounds_toArray, List.set_cons_zero, List.set_cons_succ])); (refine KS_take 2 (by kernel_rfl) (by decide +kernel) (by decide +kernel) (by exact fun _ _ _ h => h) (by rfl) (by intro w hSw; go_simp; with_reducible rfl) hS ?_; (try simp only [Act.put, List.setIfInBounds_toArray, List.set_cons_zero, List.set_cons_succ])); (refine KS_take 4 (by kernel_rfl) (by decide +kernel) (by decide +kernel) (by exact fun _ _ _ h => h) (by rfl) (by intro w hSw; go_simp; with_reducible rfl) hS ?_; (try simp only [Act.put, List.setIfInBounds_toArray, List.set_cons_zero, List.set_cons_succ])); (refine KS_take 7 (by kernel_rfl) (by decide +kernel) (by decide +kernel) (by exact fun _ _ _ h => h) (by rfl) (by intro w hSw; go_simp; with_reducible rfl) hS ?_; (try simp only [Act.put, List.setIfInBounds_toArray, List.set_cons_zero, List.set_cons_succ])); (refine KS_take 8 (by kernel_rfl) (by decide +kernel) (by decide +kernel) (by exact fun _ _ _ h => h) (by rfl) (by intro w hSw; go_simp; with_reducible rfl) hS ?_; (try simp only [Act.put, List.setIfInBounds_toArray, List.set_cons_zero, List.set_cons_succ])); (refine KS_take 9 (by kernel_rfl) (by decide +kernel) (by decide +kernel) (by exact fun _ _ _ h => h) (by rfl) (by intro w hSw; go_simp; with_reducible rfl) hS ?_; (try simp only [Act.put, List.setIfInBounds_toArray, List.set_cons_zero, List.set_cons_succ])); (refine KS_take 11 (by kernel_rfl) (by decide +kernel) (by decide +kernel) (by exact fun _ _ _ h => h) (by rfl) (by intro w hSw; go_simp; with_reducible rfl) hS ?_; (try simp only [Act.put, List.setIfInBounds_toArray, List.set_cons_zero, List.set_cons_succ])); (refine KS_take 12 (by kernel_rfl) (by decide +kernel) (by decide +kernel) (by exact fun _ _ _ h => h) (by rfl) (by intro w hSw; go_simp; with_reducible rfl) hS ?_; (try simp only [Act.put, List.setIfInBounds_toArray, List.set_cons_zero, List.set_cons_succ])); (refine KS_take 15 (by kernel_rfl) (by decide +kernel) (by decide +kernel) (by exact fun _ _ _ h => h) (by rfl) (by intro w hSw; go_simp; with_reducible rfl) hS ?_; (try simp only [Act.put, List.setIfInBounds_toArray, List.set_cons_zero, List.set_cons_succ])); (refine KS_take 16 (by kernel_rfl) (by decide +kernel) (by decide +kernel) (by exact fun _ _ _ h => h) (by rfl) (by intro w hSw; go_simp; with_reducible rfl) hS ?_; (try simp only [Act.put, List.setIfInBounds_toArray, List.set_cons_zero, List.set_cons_succ])); (refine KS_take 17 (by kernel_rfl) (by decide +kernel) (by decide +kernel) (by exact fun _ _ _ h => h) (by rfl) (by intro w hSw; go_simp; with_reducible rfl) hS ?_; (try simp only [Act.put, List.setIfInBounds_toArray, List.set_cons_zero, List.set_cons_succ])); (refine KS_take 19 (by kernel_rfl) (by decide +kernel) (by decide +kernel) (by exact fun _ _ _ h => h) (by rfl) (by intro w hSw; go_simp; with_reducible rfl) hS ?_; (try simp only [Act.put, List.setIfInBounds_toArray, List.set_cons_zero, List.set_cons_succ])); (refine KS_take 3 (by kernel_rfl) (by decide +kernel) (by decide +kernel) (by exact fun _ _ _ h => h) (by rfl) (by first | exact KS_load1 _ _ rfl _ _ rfl | exact KS_load _ _ rfl _ _ rfl) hS ?_; (try simp only [Act.put, List.setIfInBounds_toArray, List.set_cons_zero, List.set_cons_succ])); (refine KS_take 10 (by kernel_rfl) (by decide +kernel) (by decide +kernel) (by exact fun _ _ _ h => h) (by rfl) (by first | exact KS_load1 _ _ rfl _ _ rfl | exact KS_load _ _ rfl _ _ rfl) hS ?_; (try simp only [Act.put, List.setIfInBounds_toArray, List.set_cons_zero, List.set_cons_succ])); (refine KS_take 18 (by kernel_rfl) (by decide +kernel) (by decide +kernel) (by exact fun _ _ _ h => h) (by rfl) (by first | exact KS_load1 _ _ rfl _ _ rfl | exact KS_load _ _ rfl _ _ rfl) hS ?_; (try simp only [Act.put, List.setIfInBounds_toArray, List.set_cons_zero, List.set_cons_succ])); (refine KS_take 5 (by kernel_rfl) (by decide +kernel) (by decide +kernel) (by exact fun _ _ _ h => h) (by rfl) (by intro w hSw; go_simp; with_reducible rfl) hS ?_; (try simp only [Act.put, List.setIfInBounds_toArray, List.set_cons_zero, List.set_cons_succ])); (refine KS_take 13 (by kernel_rfl) (by decide +kernel) (by decide +kernel) (by exact fun _ _ _ h => h) (by rfl) (by intro w hSw; go_simp; with_reducible rfl) hS ?_; (try simp only [Act.put, List.setIfInBounds_toArray, List.set_cons_zero, List.set_cons_succ])); (refine KS_take 20 (by kernel_rfl) (by decide +kernel) (by decide +kernel) (by exact fun _ _ _ h => h) (by rfl) (by intro w hSw; go_simp; with_reducible rfl) hS ?_; (try simp only [Act.put, List.setIfInBounds_toArray, List.set_cons_zero, List.set_cons_succ])); (refine KS_take 6 (by kernel_rfl) (by decide +kernel) (by decide +kernel) (by exact fun _ _ _ h => h) (by rfl) (by first | exact KS_load1 _ _ rfl _ _ rfl | exact KS_load _ _ rfl _ _ rfl) hS ?_; (try simp only [Act.put, List.setIfInBounds_toArray, List.set_cons_zero, List.set_cons_succ])); (refine KS_take 14 (by kernel_rfl) (by decide +kernel) (by decide +kernel) (by exact fun _ _ _ h => h) (by rfl) (by first | exact KS_load1 _ _ rfl _ _ rfl | exact KS_load _ _ rfl _ _ rfl) hS ?_; (try simp only [Act.put, List.setIfInBounds_toArray, List.set_cons_zero, List.set_cons_succ])); (refine KS_take 21 (by kernel_rfl) (by decide +kernel) (by decide +kernel) (by exact fun _ _ _ h => h) (by rfl) (by first | exact KS_load1 _ _ rfl _ _ rfl | exact KS_load _ _ rfl _ _ rfl) hS ?_; (try simp only [Act.put, List.setIfInBounds_toArray, List.set_cons_zero, List.set_cons_succ])); (refine KS_one 22 (by decide +kernel) (by rfl) (fun K hk => ?_); (go_simp; (go_at_call 99; refine (HJ.out _ hK).mono ?_; rintro r w1 ⟨rfl, Nc, hNc, hK'⟩; (try clear hK); have hK := hK'; clear hK'; dsimp only)); (refine hk.out _ _ hK.subs (fun hS => ?_); clear hk K; (try simp only [Act.put, List.setIfInBounds_toArray, List.set_cons_zero, List.set_cons_succ]))); (refine wpAnyH_done (by kernel_rfl) ?_ _); go_wp2_with (first | (go_at_call 100; refine (HDK.out _ _ hK).mono ?_; rintro r w1 ⟨vk', Mk', rfl, hSk, hK'⟩; clear hK; have hK := hK'; clear hK') | (go_at_call 101; refine (HDP.out _ _ _ _ hK).mono ?_; rintro r w1 ⟨vp', Mp', rfl, hSp, hK'⟩; clear hK; have hK := hK'; clear hK') | (go_at_call 65; refine (HCUT.out _ _ _ _ _ _ hSk hSp hNc hK).mono ?_; rintro r w1 ⟨rfl, M', hM', hK'⟩; clear hK; have hK := hK'; clear hK') | ((with_reducible change wpList _ _ _ (_ :: _) _ _); first | ((with_reducible change wpList _ _ _ (Oper.mk _ (Op.load _ _) _ _ _ _ :: _) _ _); first | (refine KL_load1 hK (by rfl) _ _ rfl _ _ rfl ?_) | (refine KL_load hK (by rfl) _ _ rfl _ _ rfl ?_)) | ((with_reducible change wpList _ _ _ (Oper.mk _ (Op.store _ _ _) _ _ _ _ :: _) _ _); first | (refine KL_store1 hK (by rfl) _ _ _ rfl _ _ rfl _ (by conv => lhs; whnf) (by rfl) ?_; clear hK; intro w hK) | (refine KL_store hK (by rfl) _ _ _ rfl _ _ rfl _ rfl ?_; clear hK; intro w hK)) | ((with_reducible change wpList _ _ _ (Oper.mk _ (Op.alloc _) _ _ _ _ :: _) _ _); refine KL_alloc hK (by rfl) _ rfl ?_; clear hK; intro b w hK) | ((with_reducible change wpList _ _ _ (Oper.mk _ (Op.box _ _) _ _ _ _ :: _) _ _); refine KL_box hK (by rfl) _ _ rfl _ (by conv => lhs; whnf) ?_; clear hK; intro b w hK) | ((with_reducible change wpList _ _ _ (Oper.mk _ (Op.build _ _) _ _ _ _ :: _) _ _); first | (refine KL_build0 (by rfl) _ rfl ?_) | (refine KL_build1 (by rfl) _ _ _ rfl _ (by conv => lhs; whnf) ?_) | (refine KL_build2 (by rfl) _ _ _ _ _ rfl _ (by conv => lhs; whnf) _ (by conv => lhs; whnf) ?_) | (refine KL_build3 (by rfl) _ _ _ _ _ _ _ rfl _ (by conv => lhs; whnf) _ (by conv => lhs; whnf) _ (by conv => lhs; whnf) ?_) | (refine KL_build4 (by rfl) _ _ _ _ _ _ _ _ _ rfl _ (by conv => lhs; whnf) _ (by conv => lhs; whnf) _ (by conv => lhs; whnf) _ (by conv => lhs; whnf) ?_) | (refine KL_build5 (by rfl) _ _ _ _ _ _ _ _ _ _ _ rfl _ (by conv => lhs; whnf) _ (by conv => lhs; whnf) _ (by conv => lhs; whnf) _ (by conv => lhs; whnf) _ (by conv => lhs; whnf) ?_)) | ((with_reducible change wpList _ _ _ (Oper.mk _ (Op.binOp _ _ _ _ _) _ _ _ _ :: _) _ _); refine KL_cmp (by rfl) _ _ _ _ _ rfl _ _ rfl rfl ?_) | ((with_reducible change wpList _ _ _ (Oper.mk _ (Op.call _) _ _ _ _ :: _) _ _); refine KL_copy hK (by rfl) _ _ _ _ rfl _ _ _ _ _ _ _ _ rfl rfl _ _ (by first | exact Nat.min_eq_left (by first | decide | omega) | exact Nat.min_eq_right (by first | decide | omega)) (by first | exact Nat.mul_one _ | (conv => lhs; simp only [Nat.reduceMul])) ?_; clear hK; intro w hK) | ((with_reducible change wpList _ _ _ (Oper.mk _ (Op.index _ _ _) _ _ _ _ :: _) _ _); refine KL_index (by rfl) _ _ _ rfl _ rfl _ rfl _ (by conv => lhs; simp only [Int.reduceToNat, Int.toNat_natCast]) (by first | decide | omega) (by first | decide | omega) ?_) | ((with_reducible change wpList _ _ _ (Oper.mk _ (Op.sliceToArrayPointer _ _) _ _ _ _ :: _) _ _); refine KL_arr (by rfl) _ _ rfl _ _ _ rfl (by first | decide | omega) ?_)) | ((with_reducible change wpList _ _ _ (Oper.mk _ (Op.store _ _ _) _ _ _ _ :: _) _ _); refine KL_store1 hK (by rfl) _ _ _ rfl _ _ rfl _ (by conv => lhs; whnf) (Sl.one (by assumption)) ?_; clear hK; intro w hK)); go_end0; exact ⟨rfl, _, hM', hK⟩)
theorem mend_c {F : Nat → Prop} {w0 w : World} {L M : Mem} {b d i : Nat} {t : Tr (d + 1)} (hK : Kn F w0 w (M ++ L)) (hR : Rep (d + 1) t (.iface 103 (.pointer (some ⟨b, 0, none⟩))) M) (hi : i < t.2.length)
    (hkl : t.2.length = t.1.length + 1) (hn : t.2.length ≤ 50) (hok : ∀ u ∈ t.2, Ok d u) (hoj : ∀ a b k, a ∈ t.2 → b ∈ t.2 → t.2[i - 1]? = some a → t.2[i - 1 + 1]? = some b → t.1[i - 1]? = some k → Ok d (joinT d a b k)) :
    Calls Try.prog 70 #[.pointer (some ⟨b, 0, none⟩), .int .i64 i] w (PutRet F w0 L (d + 1) (mendT d t i) (.iface 103 (.pointer (some ⟨b, 0, none⟩))) (.tuple #[])) := by
  by_cases hc : least d ≤ sz d t.2[i] ∨ t.2.length < 2
  · exact mend0_c hK hR hi hc
  · exact mend1_c hK hR hi hc hkl hn hok hoj
end Go.Proofs.Ytpkhomfblilkhaa.E
