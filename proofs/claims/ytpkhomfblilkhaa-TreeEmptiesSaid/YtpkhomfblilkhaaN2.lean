/- tree.nodes walked: inner nodes. -/
import Derived.Test.YtpkhomfblilkhaaN1
namespace Go.Proofs.Ytpkhomfblilkhaa.E
set_option linter.all false
open Go Go.RowKit

section
variable {F : Nat → Prop} {w0 w : World} {M N N2 L : Mem} {x y z : Nat × TypeId × List Value}
theorem Kn.in2m (hK : Kn F w0 w (x :: y :: (N ++ (M ++ L)))) : Kn F w0 w (M ++ x :: y :: (N ++ L)) := (Kn.mv hK [] (fun f => by simp only [wt_append, wt_cons, wt_nil]; omega))
theorem Kn.out2m (hK : Kn F w0 w (M ++ x :: y :: (N ++ L))) : Kn F w0 w (x :: y :: (N ++ (M ++ L))) := (Kn.mv hK [] (fun f => by simp only [wt_append, wt_cons, wt_nil]; omega))
theorem Kn.in3m (hK : Kn F w0 w (x :: y :: z :: (N ++ (N2 ++ (M ++ L))))) : Kn F w0 w (M ++ x :: y :: z :: (N ++ (N2 ++ L))) := (Kn.mv hK [] (fun f => by simp only [wt_append, wt_cons, wt_nil]; omega))
theorem Kn.out3m (hK : Kn F w0 w (M ++ x :: y :: z :: (N ++ (N2 ++ L)))) : Kn F w0 w (x :: y :: z :: (N ++ (N2 ++ (M ++ L)))) := (Kn.mv hK [] (fun f => by simp only [wt_append, wt_cons, wt_nil]; omega))
end
section
variable {P : Program} {a : Act} {w : World} {Q : Exit → Act → World → Prop} {F : Nat → Prop} {w0 : World} {L : Mem}
def Ends7 (F : Nat → Prop) (w0 : World) (A : Nat → Value → Act) (R : Value → Mem → Prop) (S : Mem → Prop) (L : Nat → Value → Mem → Mem → Mem) : Exit → Act → World → Prop
  | .normal, a, w => ∃ x v M N, a = A x v ∧ R v M ∧ S N ∧ Kn F w0 w (L x v M N)
  | _, _, _ => False
theorem wp_meet7 (_ : Kn F w0 w L) {c : Code} (A : Nat → Value → Act) (R : Value → Mem → Prop) (S : Mem → Prop) (L' : Nat → Value → Mem → Mem → Mem) (h : c.wp P (Ends7 F w0 A R S L') a w) (k : ∀ x v M N w', R v M → S N → Kn F w0 w' (L' x v M N) → Q .normal (A x v) w') : c.wp P Q a w :=
  Code.wp_mono (fun e a' w' h' => by
    cases e with
    | normal => obtain ⟨x, v, M, N, rfl, h1, h2, h3⟩ := h'; exact k x v M N w' h1 h2 h3
    | _ => exact h'.elim) h
end
theorem nodesT_succ {d : Nat} (t : Tr (d + 1)) (b : Nat) : nodesT (d + 1) t b = (nodesL (nodesT d) t.2 b).1 ++ [⟨false, [], t.1, (nodesL (nodesT d) t.2 b).2⟩] := rfl
theorem nodesT_len {d : Nat} (t : Tr (d + 1)) (b : Nat) : (nodesT (d + 1) t b).length = (nodesL (nodesT d) t.2 b).1.length + 1 := List.length_append
/-- No inner node of one kid. -/
def Kids2 : (d : Nat) → Tr d → Prop
  | 0, _ => True
  | d + 1, t => 2 ≤ t.2.length ∧ ∀ u ∈ t.2, Kids2 d u
theorem nodesL_append {α : Type} (f : α → Nat → List NodeV) : ∀ (us vs : List α) (b : Nat), (nodesL f (us ++ vs) b).1 = (nodesL f us b).1 ++ (nodesL f vs (b + (nodesL f us b).1.length)).1
  | [], vs, b => by simp [nodesL]
  | u :: us, vs, b => by
    rw [List.cons_append, nodesL, nodesL_append f us vs]
    simp only [nodesL, List.append_assoc, List.length_append, Nat.add_assoc]
theorem nodesL_take_le {α : Type} (f : α → Nat → List NodeV) (us : List α) (b i : Nat) : (nodesL f (us.take i) b).1.length ≤ (nodesL f us b).1.length := by
  conv => rhs; rw [← List.take_append_drop i us]
  rw [nodesL_append, List.length_append]; omega
theorem nodesL_next {α : Type} (f : α → Nat → List NodeV) {us : List α} {i : Nat} (h : i < us.length) (b : Nat) : nodesL f (us.take (i + 1)) b = ((nodesL f (us.take i) b).1 ++ f us[i] (b + (nodesL f (us.take i) b).1.length), (nodesL f (us.take i) b).2 ++ [((b + (nodesL f (us.take i) b).1.length + (f us[i] (b + (nodesL f (us.take i) b).1.length)).length : Nat) - 1 : Int)]) := by
  rw [List.take_succ_eq_append_getElem h, nodesL_snoc]
set_option maxRecDepth 20000 in
set_option maxHeartbeats 3200000 in
theorem nodesI_c {d : Nat} (ih : ∀ {F : Nat → Prop} {w0 w : World} {L M Mn : Mem} {p : Value} {t : Tr d} {bl : Nat} {ns : List NodeV}, Kn F w0 w (M ++ (Mn ++ L)) → Rep d t p M → NodesAt bl ns Mn → Ok d t → Kids2 d t → ns.length + (nodesT d t ns.length).length ≤ 900000 → Calls Try.prog 47 #[p, .pointer (some ⟨bl, 0, none⟩)] w (NdRet F w0 M L bl (ns ++ nodesT d t ns.length)))
    {F : Nat → Prop} {w0 w : World} {L M Mn : Mem} {p : Value} {t : Tr (d + 1)} {bl : Nat} {ns : List NodeV} (hK : Kn F w0 w (M ++ (Mn ++ L))) (hR : Rep (d + 1) t p M) (hN : NodesAt bl ns Mn) (ho : Ok (d + 1) t) (h2 : Kids2 (d + 1) t) (hb : ns.length + (nodesT (d + 1) t ns.length).length ≤ 900000) :
    Calls Try.prog 47 #[p, .pointer (some ⟨bl, 0, none⟩)] w (NdRet F w0 M L bl (ns ++ nodesT (d + 1) t ns.length)) := by
  obtain ⟨ha, hkl, hn, hok⟩ := ho
  obtain ⟨b, vk, Mk, vp, Mp, ps, MM, rfl, hVk, hVp, hMM, rfl⟩ := hR
  have hlen := nodesT_len t ns.length
  obtain ⟨ks, kids⟩ := t
  dsimp only at hVk hVp hMM ha hkl hn hok hlen
  obtain ⟨base, hbase⟩ : ∃ base, base = ns.length := ⟨_, rfl⟩
  obtain ⟨tot, htot⟩ : ∃ tot, tot = (nodesL (nodesT d) kids base).1.length := ⟨_, rfl⟩
  have hb2 : ns.length + tot + 1 ≤ 900000 := by
    rw [hlen, ← hbase, ← htot] at hb
    omega
  have hres : nodesT (d + 1) (ks, kids) ns.length = (nodesL (nodesT d) kids base).1 ++ [⟨false, [], ks, (nodesL (nodesT d) kids base).2⟩] := by rw [hbase]; rfl
  rw [hres]
  clear hres hb
  obtain ⟨gp, cp, jp, rfl, rfl, hxp, hcp, hnp, hmp⟩ := hVp.pos (by omega)
  have hpl := hMM.len
  obtain ⟨X, hX⟩ : ∃ X, X = (b, 106, [vk, Value.slice (some ⟨gp, 0, none⟩) kids.length cp]) :: (Mk ++ (gp, 37, ps ++ jp) :: (MM ++ L)) := ⟨_, rfl⟩
  have hKN : ∀ (w : World) (x : Nat × TypeId × List Value) (Y1 Y2 : Mem) (j : Nat) (hj : j < kids.length) (q : Value), ps[j]? = some q → ∀ (ns' : List NodeV) (Mn : Mem), ns'.length = base + (nodesL (nodesT d) (kids.take j) base).1.length → NodesAt bl ns' Mn → Kn F w0 w (x :: (Y1 ++ (Y2 ++ (Mn ++ X)))) → Calls Try.prog 47 #[q, .pointer (some ⟨bl, 0, none⟩)] w fun r w' => r = .returned (.int .i64 (((ns' ++ nodesT d kids[j] ns'.length).length : Int) - 1)) ∧ ∃ Mn', NodesAt bl (ns' ++ nodesT d kids[j] ns'.length) Mn' ∧ Kn F w0 w' (x :: (Y1 ++ (Y2 ++ (Mn' ++ X)))) := fun w x Y1 Y2 j hj q hq ns' Mn hns hNA h => by
    obtain ⟨A, N, B, q', hMe, hq', hQ, hA, hB⟩ := hMM.at hj
    rw [hq] at hq'
    obtain rfl := Option.some.inj hq'
    have hle : ns'.length + (nodesT d kids[j] ns'.length).length ≤ 900000 := by
      have h1 := nodesL_next (nodesT d) hj base
      have h2 := nodesL_take_le (nodesT d) kids base (j + 1)
      rw [h1, ← hns] at h2
      rw [List.length_append] at h2
      omega
    have h1 : Kn F w0 w (N ++ (Mn ++ (x :: (Y1 ++ (Y2 ++ ((b, 106, [vk, Value.slice (some ⟨gp, 0, none⟩) kids.length cp]) :: (Mk ++ (gp, 37, ps ++ jp) :: (A ++ (B ++ L))))))))) := by
      rw [hX, hMe] at h
      exact (Kn.mv h [] (fun f => by simp only [wt_append, wt_cons, wt_nil]; omega))
    refine (ih h1 hQ hNA (hok _ (List.getElem_mem hj)) (h2.2 _ (List.getElem_mem hj)) hle).mono ?_
    rintro r w' ⟨rfl, Mn', hNA', h'⟩
    refine ⟨rfl, Mn', hNA', ?_⟩
    rw [hX, hMe]
    exact (Kn.mv h' [] (fun f => by simp only [wt_append, wt_cons, wt_nil]; omega))
  haveI hHb : Has X b 106 [vk, Value.slice (some ⟨gp, 0, none⟩) kids.length cp] := ⟨by rw [hX]; exact List.mem_cons_self ..⟩
  haveI hHg : Has X gp 37 (ps ++ jp) := ⟨by rw [hX]; exact List.mem_cons_of_mem _ (List.mem_append_right _ (List.mem_cons_self ..))⟩
  have hK1 : Kn F w0 w (Mn ++ X) := by rw [hX]; exact (Kn.mv hK [] (fun f => by simp only [wt_append, wt_cons, wt_nil]; omega))
  have hback : ∀ (w' : World) (Mn' : Mem), Kn F w0 w' (Mn' ++ X) → Kn F w0 w' (((b, 106, [vk, Value.slice (some ⟨gp, 0, none⟩) kids.length cp]) :: (Mk ++ ([(gp, 37, ps ++ jp)] ++ MM))) ++ (Mn' ++ L)) := fun w' Mn' h => by rw [hX] at h; exact (Kn.mv h [] (fun f => by simp only [wt_append, wt_cons, wt_nil]; omega))
  have h2l : 2 ≤ kids.length := h2.1
  obtain ⟨gk, ck, jk, hvk, hMk, hxk, hck, hnk, hmk⟩ := hVk.pos (by omega)
  haveI hHk : Has X gk 23 (rows rK ks ++ jk) := ⟨by rw [hX, hMk]; exact List.mem_cons_of_mem _ (List.mem_append_left _ (List.mem_cons_self ..))⟩
  have hcx : ((rows rK ks ++ jk).drop 0).take (ks.length * 40) = rows rK ks := by rw [List.drop_zero, List.take_left' hxk]
  have honek := rows_one rK_one ks
  have hlk : (rows rK ks ++ jk).length = ks.length * 40 + jk.length := by rw [List.length_append, hxk]
  have hcl : ∀ (w : World) (Y : Mem), Kn F w0 w (Y ++ X) → Calls Try.prog 67 #[.slice (some ⟨gk, 0, none⟩) ks.length ck] w (SlRet F w0 23 40 ks.length (rows rK ks) (Y ++ X)) := fun w Y h => cloK_c h (l := rows rK ks ++ jk) hcx (by omega) honek (by omega)
  have HCL := Lib.hid hcl
  have HKN := Lib.hid hKN
  have HB := Lib.hid hback
  have HPL := Lib.hid hpl
  have HTOT := Lib.hid htot
  have HBASE := Lib.hid hbase
  have hnb : ns.length + tot ≤ 899999 := by omega
  have HNA := Lib.hid hN
  subst hvk
  clear hK hcl hKN hback hpl htot hbase hX hMk hcx honek hlk hVk hb2 hkl h2 h2l hok ih ha hN hlen
  have hK := hK1
  clear hK1
  go_enter Try.func47, Try.ntmps47
  go_wp2_with ((with_reducible change wpList _ _ _ (_ :: _) _ _); first | ((with_reducible change wpList _ _ _ (Oper.mk _ (Op.load _ _) _ _ _ _ :: _) _ _); first | (refine KL_load1 hK (by rfl) _ _ rfl _ _ rfl ?_) | (refine KL_load hK (by rfl) _ _ rfl _ _ rfl ?_)) | ((with_reducible change wpList _ _ _ (Oper.mk _ (Op.store _ _ _) _ _ _ _ :: _) _ _); first | (refine KL_store1 hK (by rfl) _ _ _ rfl _ _ rfl _ (by conv => lhs; whnf) (by rfl) ?_; clear hK; intro w hK) | (refine KL_store hK (by rfl) _ _ _ rfl _ _ rfl _ rfl ?_; clear hK; intro w hK)) | ((with_reducible change wpList _ _ _ (Oper.mk _ (Op.alloc _) _ _ _ _ :: _) _ _); refine KL_alloc hK (by rfl) _ rfl ?_; clear hK; intro b w hK) | ((with_reducible change wpList _ _ _ (Oper.mk _ (Op.box _ _) _ _ _ _ :: _) _ _); refine KL_box hK (by rfl) _ _ rfl _ (by conv => lhs; whnf) ?_; clear hK; intro b w hK) | ((with_reducible change wpList _ _ _ (Oper.mk _ (Op.build _ _) _ _ _ _ :: _) _ _); first | (refine KL_build0 (by rfl) _ rfl ?_) | (refine KL_build1 (by rfl) _ _ _ rfl _ (by conv => lhs; whnf) ?_) | (refine KL_build2 (by rfl) _ _ _ _ _ rfl _ (by conv => lhs; whnf) _ (by conv => lhs; whnf) ?_) | (refine KL_build3 (by rfl) _ _ _ _ _ _ _ rfl _ (by conv => lhs; whnf) _ (by conv => lhs; whnf) _ (by conv => lhs; whnf) ?_) | (refine KL_build4 (by rfl) _ _ _ _ _ _ _ _ _ rfl _ (by conv => lhs; whnf) _ (by conv => lhs; whnf) _ (by conv => lhs; whnf) _ (by conv => lhs; whnf) ?_) | (refine KL_build5 (by rfl) _ _ _ _ _ _ _ _ _ _ _ rfl _ (by conv => lhs; whnf) _ (by conv => lhs; whnf) _ (by conv => lhs; whnf) _ (by conv => lhs; whnf) _ (by conv => lhs; whnf) ?_)) | ((with_reducible change wpList _ _ _ (Oper.mk _ (Op.binOp _ _ _ _ _) _ _ _ _ :: _) _ _); refine KL_cmp (by rfl) _ _ _ _ _ rfl _ _ rfl rfl ?_) | ((with_reducible change wpList _ _ _ (Oper.mk _ (Op.call _) _ _ _ _ :: _) _ _); refine KL_copy hK (by rfl) _ _ _ _ rfl _ _ _ _ _ _ _ _ rfl rfl _ _ (by first | exact Nat.min_eq_left (by first | decide | omega) | exact Nat.min_eq_right (by first | decide | omega)) (by first | exact Nat.mul_one _ | (conv => lhs; simp only [Nat.reduceMul])) ?_; clear hK; intro w hK) | ((with_reducible change wpList _ _ _ (Oper.mk _ (Op.index _ _ _) _ _ _ _ :: _) _ _); refine KL_index (by rfl) _ _ _ rfl _ rfl _ rfl _ (by conv => lhs; simp only [Int.reduceToNat, Int.toNat_natCast]) (by first | decide | omega) (by first | decide | omega) ?_) | ((with_reducible change wpList _ _ _ (Oper.mk _ (Op.sliceToArrayPointer _ _) _ _ _ _ :: _) _ _); refine KL_arr (by rfl) _ _ rfl _ _ _ rfl (by first | decide | omega) ?_))
  obtain ⟨bn, rfl⟩ := hK.n0
  refine (HCL.out _ (_ :: Mn) hK).mono ?_
  rintro r w1 ⟨vk', Mk', rfl, hSk, hK'⟩
  obtain ⟨ak, ck', rfl⟩ := hSk.val2
  have hK1 : Kn F w0 w1 ((bn, 77, [.bool false, .slice none 0 0, .slice none 0 0, .slice none 0 0]) :: (Mk' ++ ([] ++ (Mn ++ X)))) := (Kn.mv hK' [] (fun f => by simp only [wt_append, wt_cons, wt_nil]; omega))
  clear hK hK'
  have hK := hK1
  clear hK1
  go_wp2_with ((with_reducible change wpList _ _ _ (_ :: _) _ _); first | ((with_reducible change wpList _ _ _ (Oper.mk _ (Op.load _ _) _ _ _ _ :: _) _ _); first | (refine KL_load1 hK (by rfl) _ _ rfl _ _ rfl ?_) | (refine KL_load hK (by rfl) _ _ rfl _ _ rfl ?_)) | ((with_reducible change wpList _ _ _ (Oper.mk _ (Op.store _ _ _) _ _ _ _ :: _) _ _); first | (refine KL_store1 hK (by rfl) _ _ _ rfl _ _ rfl _ (by conv => lhs; whnf) (by rfl) ?_; clear hK; intro w hK) | (refine KL_store hK (by rfl) _ _ _ rfl _ _ rfl _ rfl ?_; clear hK; intro w hK)) | ((with_reducible change wpList _ _ _ (Oper.mk _ (Op.alloc _) _ _ _ _ :: _) _ _); refine KL_alloc hK (by rfl) _ rfl ?_; clear hK; intro b w hK) | ((with_reducible change wpList _ _ _ (Oper.mk _ (Op.box _ _) _ _ _ _ :: _) _ _); refine KL_box hK (by rfl) _ _ rfl _ (by conv => lhs; whnf) ?_; clear hK; intro b w hK) | ((with_reducible change wpList _ _ _ (Oper.mk _ (Op.build _ _) _ _ _ _ :: _) _ _); first | (refine KL_build0 (by rfl) _ rfl ?_) | (refine KL_build1 (by rfl) _ _ _ rfl _ (by conv => lhs; whnf) ?_) | (refine KL_build2 (by rfl) _ _ _ _ _ rfl _ (by conv => lhs; whnf) _ (by conv => lhs; whnf) ?_) | (refine KL_build3 (by rfl) _ _ _ _ _ _ _ rfl _ (by conv => lhs; whnf) _ (by conv => lhs; whnf) _ (by conv => lhs; whnf) ?_) | (refine KL_build4 (by rfl) _ _ _ _ _ _ _ _ _ rfl _ (by conv => lhs; whnf) _ (by conv => lhs; whnf) _ (by conv => lhs; whnf) _ (by conv => lhs; whnf) ?_) | (refine KL_build5 (by rfl) _ _ _ _ _ _ _ _ _ _ _ rfl _ (by conv => lhs; whnf) _ (by conv => lhs; whnf) _ (by conv => lhs; whnf) _ (by conv => lhs; whnf) _ (by conv => lhs; whnf) ?_)) | ((with_reducible change wpList _ _ _ (Oper.mk _ (Op.binOp _ _ _ _ _) _ _ _ _ :: _) _ _); refine KL_cmp (by rfl) _ _ _ _ _ rfl _ _ rfl rfl ?_) | ((with_reducible change wpList _ _ _ (Oper.mk _ (Op.call _) _ _ _ _ :: _) _ _); refine KL_copy hK (by rfl) _ _ _ _ rfl _ _ _ _ _ _ _ _ rfl rfl _ _ (by first | exact Nat.min_eq_left (by first | decide | omega) | exact Nat.min_eq_right (by first | decide | omega)) (by first | exact Nat.mul_one _ | (conv => lhs; simp only [Nat.reduceMul])) ?_; clear hK; intro w hK) | ((with_reducible change wpList _ _ _ (Oper.mk _ (Op.index _ _ _) _ _ _ _ :: _) _ _); refine KL_index (by rfl) _ _ _ rfl _ rfl _ rfl _ (by conv => lhs; simp only [Int.reduceToNat, Int.toNat_natCast]) (by first | decide | omega) (by first | decide | omega) ?_) | ((with_reducible change wpList _ _ _ (Oper.mk _ (Op.sliceToArrayPointer _ _) _ _ _ _ :: _) _ _); refine KL_arr (by rfl) _ _ rfl _ _ _ rfl (by first | decide | omega) ?_))
  go_loopw [34] (fun n wr => ∃ (j : Nat) (vi : Value) (Mi Mn : Mem), j ≤ kids.length ∧ n = .int .i64 j ∧ Sl 3 1 j (N (nodesL (nodesT d) (kids.take j) base).2) vi Mi ∧ NodesAt bl (ns ++ (nodesL (nodesT d) (kids.take j) base).1) Mn ∧ Kn F w0 wr ((bn, 77, [.bool false, .slice none 0 0, .slice ak ks.length ck', vi]) :: (Mk' ++ (Mi ++ (Mn ++ X))))) (fun n _ => kids.length - (intOf n).toNat)
  case atStart => exact ⟨0, _, [], Mn, Nat.zero_le _, rfl, .nil rfl rfl, by rw [List.take_zero, nodesL, List.append_nil]; exact HNA.out, hK⟩
  case round =>
    clear hK HNA Mn
    obtain ⟨j, vi, Mi, Mn, hj, rfl, hSi, hNA, hK⟩ := hrel
    obtain ⟨ai, ci, rfl⟩ := hSi.val2
    by_cases hlt : j < kids.length
    · have hjp : j < ps.length := by have := HPL.out; omega
      obtain ⟨q, hq⟩ : ∃ q, ps[j]? = some q := ⟨_, List.getElem?_eq_getElem hjp⟩
      haveI hat : At (ps ++ jp) j q := ⟨by rw [List.getElem?_append_left hjp]; exact hq⟩
      obtain ⟨ns', hns'⟩ : ∃ ns', ns' = ns ++ (nodesL (nodesT d) (kids.take j) base).1 := ⟨_, rfl⟩
      have hnl : ns'.length = base + (nodesL (nodesT d) (kids.take j) base).1.length := by rw [hns', List.length_append, HBASE.out]
      obtain ⟨z, hz⟩ : ∃ z, z = ((ns' ++ nodesT d kids[j] ns'.length).length : Int) - 1 := ⟨_, rfl⟩
      have hkn := HKN.out
      have hkn1 : ∀ (w : World) (x : Nat × TypeId × List Value) (Y1 Y2 Mn : Mem), NodesAt bl ns' Mn → Kn F w0 w (x :: (Y1 ++ (Y2 ++ (Mn ++ X)))) → Calls Try.prog 47 #[q, .pointer (some ⟨bl, 0, none⟩)] w fun r w' => r = .returned (.int .i64 z) ∧ ∃ Mn', NodesAt bl (ns' ++ nodesT d kids[j] ns'.length) Mn' ∧ Kn F w0 w' (x :: (Y1 ++ (Y2 ++ (Mn' ++ X)))) := fun w x Y1 Y2 Mn hNA h => by
        rw [hz]
        exact hkn w x Y1 Y2 j hlt q hq ns' Mn hnl hNA h
      have hnx := nodesL_next (nodesT d) hlt base
      have hz2 : z = ((base + (nodesL (nodesT d) (kids.take j) base).1.length + (nodesT d kids[j] (base + (nodesL (nodesT d) (kids.take j) base).1.length)).length : Nat) - 1 : Int) := by
        rw [hz, List.length_append, hnl]
      rw [← hz2] at hnx
      have hq1 : (nodesL (nodesT d) (kids.take (j + 1)) base).2 = (nodesL (nodesT d) (kids.take j) base).2 ++ [z] := by rw [hnx]
      have hq2 : ns ++ (nodesL (nodesT d) (kids.take (j + 1)) base).1 = ns' ++ nodesT d kids[j] ns'.length := by rw [hnx, hnl, hns', List.append_assoc]
      rw [← hns'] at hNA
      have HQ1 := Lib.hid hq1
      have HQ2 := Lib.hid hq2
      have HKN1 := Lib.hid hkn1
      have q1 : (j : Int) < kids.length := by omega
      clear hkn hkn1 hnx hz hz2 hq1 hq2 hnl hns' hq
      go_wp2_with ((with_reducible change wpList _ _ _ (_ :: _) _ _); first | ((with_reducible change wpList _ _ _ (Oper.mk _ (Op.load _ _) _ _ _ _ :: _) _ _); first | (refine KL_load1 hK (by rfl) _ _ rfl _ _ rfl ?_) | (refine KL_load hK (by rfl) _ _ rfl _ _ rfl ?_)) | ((with_reducible change wpList _ _ _ (Oper.mk _ (Op.store _ _ _) _ _ _ _ :: _) _ _); first | (refine KL_store1 hK (by rfl) _ _ _ rfl _ _ rfl _ (by conv => lhs; whnf) (by rfl) ?_; clear hK; intro w hK) | (refine KL_store hK (by rfl) _ _ _ rfl _ _ rfl _ rfl ?_; clear hK; intro w hK)) | ((with_reducible change wpList _ _ _ (Oper.mk _ (Op.alloc _) _ _ _ _ :: _) _ _); refine KL_alloc hK (by rfl) _ rfl ?_; clear hK; intro b w hK) | ((with_reducible change wpList _ _ _ (Oper.mk _ (Op.box _ _) _ _ _ _ :: _) _ _); refine KL_box hK (by rfl) _ _ rfl _ (by conv => lhs; whnf) ?_; clear hK; intro b w hK) | ((with_reducible change wpList _ _ _ (Oper.mk _ (Op.build _ _) _ _ _ _ :: _) _ _); first | (refine KL_build0 (by rfl) _ rfl ?_) | (refine KL_build1 (by rfl) _ _ _ rfl _ (by conv => lhs; whnf) ?_) | (refine KL_build2 (by rfl) _ _ _ _ _ rfl _ (by conv => lhs; whnf) _ (by conv => lhs; whnf) ?_) | (refine KL_build3 (by rfl) _ _ _ _ _ _ _ rfl _ (by conv => lhs; whnf) _ (by conv => lhs; whnf) _ (by conv => lhs; whnf) ?_) | (refine KL_build4 (by rfl) _ _ _ _ _ _ _ _ _ rfl _ (by conv => lhs; whnf) _ (by conv => lhs; whnf) _ (by conv => lhs; whnf) _ (by conv => lhs; whnf) ?_) | (refine KL_build5 (by rfl) _ _ _ _ _ _ _ _ _ _ _ rfl _ (by conv => lhs; whnf) _ (by conv => lhs; whnf) _ (by conv => lhs; whnf) _ (by conv => lhs; whnf) _ (by conv => lhs; whnf) ?_)) | ((with_reducible change wpList _ _ _ (Oper.mk _ (Op.binOp _ _ _ _ _) _ _ _ _ :: _) _ _); refine KL_cmp (by rfl) _ _ _ _ _ rfl _ _ rfl rfl ?_) | ((with_reducible change wpList _ _ _ (Oper.mk _ (Op.call _) _ _ _ _ :: _) _ _); refine KL_copy hK (by rfl) _ _ _ _ rfl _ _ _ _ _ _ _ _ rfl rfl _ _ (by first | exact Nat.min_eq_left (by first | decide | omega) | exact Nat.min_eq_right (by first | decide | omega)) (by first | exact Nat.mul_one _ | (conv => lhs; simp only [Nat.reduceMul])) ?_; clear hK; intro w hK) | ((with_reducible change wpList _ _ _ (Oper.mk _ (Op.index _ _ _) _ _ _ _ :: _) _ _); refine KL_index (by rfl) _ _ _ rfl _ rfl _ rfl _ (by conv => lhs; simp only [Int.reduceToNat, Int.toNat_natCast]) (by first | decide | omega) (by first | decide | omega) ?_) | ((with_reducible change wpList _ _ _ (Oper.mk _ (Op.sliceToArrayPointer _ _) _ _ _ _ :: _) _ _); refine KL_arr (by rfl) _ _ rfl _ _ _ rfl (by first | decide | omega) ?_))
      apply wp_meet7 hK
      case h =>
        (refine wp_region_sub hK [] (by kernel_rfl) ?_; (try clear hK); intro w hK hS)
        (refine KS_take 0 (by kernel_rfl) (by decide +kernel) (by decide +kernel) (by exact fun _ _ _ h => h) (by rfl) (by intro w hSw; go_simp; with_reducible rfl) hS ?_; (try simp only [Act.put, List.setIfInBounds_toArray, List.set_cons_zero, List.set_cons_succ])); (refine KS_take 2 (by kernel_rfl) (by decide +kernel) (by decide +kernel) (by exact fun _ _ _ h => h) (by rfl) (by intro w hSw; go_simp; with_reducible rfl) hS ?_; (try simp only [Act.put, List.setIfInBounds_toArray, List.set_cons_zero, List.set_cons_succ])); (refine KS_take 3 (by kernel_rfl) (by decide +kernel) (by decide +kernel) (by exact fun _ _ _ h => h) (by rfl) (by intro w hSw; go_simp; with_reducible rfl) hS ?_; (try simp only [Act.put, List.setIfInBounds_toArray, List.set_cons_zero, List.set_cons_succ]))
        refine KS_two 1 4 (by decide +kernel) (by rfl) (by rfl) (fun K hk => ?_) (fun K hk => ?_)
        · refine KO_load1 hK _ _ rfl _ _ rfl ?_
          (refine hk.out _ _ hK.subs (fun hS => ?_); clear hk K; (try simp only [Act.put, List.setIfInBounds_toArray, List.set_cons_zero, List.set_cons_succ]))
          (refine KS_one 4 (by decide +kernel) (by rfl) (fun K hk => ?_); (go_simp; (go_at_call 47; refine (HKN1.out _ _ _ _ _ hNA hK).mono ?_; rintro r w1 ⟨rfl, Mn', hNA', hK'⟩; (try clear hK); have hK := hK'; clear hK'; dsimp only)); (refine hk.out _ _ hK.subs (fun hS => ?_); clear hk K; (try simp only [Act.put, List.setIfInBounds_toArray, List.set_cons_zero, List.set_cons_succ])))
          (refine KS_one 5 (by decide +kernel) (by rfl) (fun K hk => ?_); (refine KO_buildSlice hK _ _ _ rfl [(0, .int .i64 z)] rfl ?_; (try clear hK); intro bx w hK); (refine hk.out _ _ hK.subs (fun hS => ?_); clear hk K; (try simp only [Act.put, List.setIfInBounds_toArray, List.set_cons_zero, List.set_cons_succ])))
          (refine KS_one 6 (by decide +kernel) (by rfl) (fun K hk => ?_); ((refine KO_appS (M := Mi) hK.in2m hSi _ _ _ _ rfl rfl rfl (Sl.src (Sl.whole (e := 3) (g := bx) (n := 1) (size := 1) (xs := [.int .i64 z]) rfl (by unfold maxLen; omega)) (by intro u hu; rw [List.mem_singleton] at hu; rw [hu]; rfl) Try.underlying64 (Kn.subs (L' := [(bx, 3, [.int .i64 z])]) hK).blk) (by omega) (by decide) ?_; (try clear hK); intro v2 M2 w hS2 hK'; have hK := hK'.out2m; clear hK')); (refine hk.out _ _ hK.subs (fun hS => ?_); clear hk K; (try simp only [Act.put, List.setIfInBounds_toArray, List.set_cons_zero, List.set_cons_succ]))); (refine KS_take 7 (by kernel_rfl) (by decide +kernel) (by decide +kernel) (by exact fun _ _ _ h => h) (by rfl) (by intro w hSw; go_simp; with_reducible rfl) hS ?_; (try simp only [Act.put, List.setIfInBounds_toArray, List.set_cons_zero, List.set_cons_succ])); (refine KS_one 8 (by decide +kernel) (by rfl) (fun K hk => ?_); ((refine KO_store1 hK _ _ _ rfl _ _ rfl _ (by conv => lhs; whnf) hS2.one ?_; (try clear hK); intro w hK)); (refine hk.out _ _ hK.subs (fun hS => ?_); clear hk K; (try simp only [Act.put, List.setIfInBounds_toArray, List.set_cons_zero, List.set_cons_succ]))); (refine wpAnyH_done (by kernel_rfl) ?_ _); exact ⟨bx, v2, M2, Mn', rfl, hS2, hNA', hK⟩
        · go_simp; (go_at_call 47; refine (HKN1.out _ _ _ _ _ hNA hK).mono ?_; rintro r w1 ⟨rfl, Mn', hNA', hK'⟩; (try clear hK); have hK := hK'; clear hK'; dsimp only)
          (refine hk.out _ _ hK.subs (fun hS => ?_); clear hk K; (try simp only [Act.put, List.setIfInBounds_toArray, List.set_cons_zero, List.set_cons_succ]))
          refine KS_two 1 5 (by decide +kernel) (by rfl) (by rfl) (fun K hk => ?_) (fun K hk => ?_)
          · refine KO_load1 hK _ _ rfl _ _ rfl ?_
            (refine hk.out _ _ hK.subs (fun hS => ?_); clear hk K; (try simp only [Act.put, List.setIfInBounds_toArray, List.set_cons_zero, List.set_cons_succ]))
            (refine KS_one 5 (by decide +kernel) (by rfl) (fun K hk => ?_); (refine KO_buildSlice hK _ _ _ rfl [(0, .int .i64 z)] rfl ?_; (try clear hK); intro bx w hK); (refine hk.out _ _ hK.subs (fun hS => ?_); clear hk K; (try simp only [Act.put, List.setIfInBounds_toArray, List.set_cons_zero, List.set_cons_succ])))
            (refine KS_one 6 (by decide +kernel) (by rfl) (fun K hk => ?_); ((refine KO_appS (M := Mi) hK.in2m hSi _ _ _ _ rfl rfl rfl (Sl.src (Sl.whole (e := 3) (g := bx) (n := 1) (size := 1) (xs := [.int .i64 z]) rfl (by unfold maxLen; omega)) (by intro u hu; rw [List.mem_singleton] at hu; rw [hu]; rfl) Try.underlying64 (Kn.subs (L' := [(bx, 3, [.int .i64 z])]) hK).blk) (by omega) (by decide) ?_; (try clear hK); intro v2 M2 w hS2 hK'; have hK := hK'.out2m; clear hK')); (refine hk.out _ _ hK.subs (fun hS => ?_); clear hk K; (try simp only [Act.put, List.setIfInBounds_toArray, List.set_cons_zero, List.set_cons_succ]))); (refine KS_take 7 (by kernel_rfl) (by decide +kernel) (by decide +kernel) (by exact fun _ _ _ h => h) (by rfl) (by intro w hSw; go_simp; with_reducible rfl) hS ?_; (try simp only [Act.put, List.setIfInBounds_toArray, List.set_cons_zero, List.set_cons_succ])); (refine KS_one 8 (by decide +kernel) (by rfl) (fun K hk => ?_); ((refine KO_store1 hK _ _ _ rfl _ _ rfl _ (by conv => lhs; whnf) hS2.one ?_; (try clear hK); intro w hK)); (refine hk.out _ _ hK.subs (fun hS => ?_); clear hk K; (try simp only [Act.put, List.setIfInBounds_toArray, List.set_cons_zero, List.set_cons_succ]))); (refine wpAnyH_done (by kernel_rfl) ?_ _); exact ⟨bx, v2, M2, Mn', rfl, hS2, hNA', hK⟩
          · refine KO_buildSlice hK _ _ _ rfl [(0, .int .i64 z)] rfl ?_; (try clear hK); intro bx w hK
            (refine hk.out _ _ hK.subs (fun hS => ?_); clear hk K; (try simp only [Act.put, List.setIfInBounds_toArray, List.set_cons_zero, List.set_cons_succ]))
            (refine KS_one 1 (by decide +kernel) (by rfl) (fun K hk => ?_); (refine KO_load1 hK _ _ rfl _ _ rfl ?_); (refine hk.out _ _ hK.subs (fun hS => ?_); clear hk K; (try simp only [Act.put, List.setIfInBounds_toArray, List.set_cons_zero, List.set_cons_succ])))
            (refine KS_one 6 (by decide +kernel) (by rfl) (fun K hk => ?_); ((refine KO_appS (M := Mi) hK.in2m hSi _ _ _ _ rfl rfl rfl (Sl.src (Sl.whole (e := 3) (g := bx) (n := 1) (size := 1) (xs := [.int .i64 z]) rfl (by unfold maxLen; omega)) (by intro u hu; rw [List.mem_singleton] at hu; rw [hu]; rfl) Try.underlying64 (Kn.subs (L' := [(bx, 3, [.int .i64 z])]) hK).blk) (by omega) (by decide) ?_; (try clear hK); intro v2 M2 w hS2 hK'; have hK := hK'.out2m; clear hK')); (refine hk.out _ _ hK.subs (fun hS => ?_); clear hk K; (try simp only [Act.put, List.setIfInBounds_toArray, List.set_cons_zero, List.set_cons_succ]))); (refine KS_take 7 (by kernel_rfl) (by decide +kernel) (by decide +kernel) (by exact fun _ _ _ h => h) (by rfl) (by intro w hSw; go_simp; with_reducible rfl) hS ?_; (try simp only [Act.put, List.setIfInBounds_toArray, List.set_cons_zero, List.set_cons_succ])); (refine KS_one 8 (by decide +kernel) (by rfl) (fun K hk => ?_); ((refine KO_store1 hK _ _ _ rfl _ _ rfl _ (by conv => lhs; whnf) hS2.one ?_; (try clear hK); intro w hK)); (refine hk.out _ _ hK.subs (fun hS => ?_); clear hk K; (try simp only [Act.put, List.setIfInBounds_toArray, List.set_cons_zero, List.set_cons_succ]))); (refine wpAnyH_done (by kernel_rfl) ?_ _); exact ⟨bx, v2, M2, Mn', rfl, hS2, hNA', hK⟩
      case k =>
        clear hK hNA hSi
        intro bx v2 M2 Mn' w hS2 hNA' hK
        go_wp2_with fail
        refine ⟨⟨j + 1, v2, M2, Mn', hlt, rfl, ?_, by rw [HQ2.out]; exact hNA', hK.tl rfl⟩, by simp [intOf]; omega⟩
        rw [HQ1.out]
        exact hS2.cg rfl (by simp [N])
    · obtain rfl : j = kids.length := by omega
      rw [List.take_length] at hSi hNA
      obtain ⟨ns2, hns2⟩ : ∃ ns2, ns2 = ns ++ (nodesL (nodesT d) kids base).1 := ⟨_, rfl⟩
      have hll : ns2.length ≤ 899999 := by
        have := HTOT.out
        rw [hns2, List.length_append]; omega
      rw [← hns2] at hNA
      obtain ⟨vl, Ml, qs, MMn, rfl, hSl, hReps⟩ := hNA
      have hK1 : Kn F w0 wr ((bn, 77, [.bool false, .slice none 0 0, .slice ak ks.length ck', .slice ai kids.length ci]) :: (bl, 72, [vl]) :: (Mk' ++ (Mi ++ (Ml ++ (MMn ++ X))))) := (Kn.mv hK [] (fun f => by simp only [wt_append, wt_cons, wt_nil]; omega))
      have hfin : ∀ (w : World) (v2 : Value) (M2 : Mem), Sl 77 4 (ns2.length + 1) (flatV qs ++ [.bool false, .slice none 0 0, .slice ak ks.length ck', .slice ai kids.length ci]) v2 M2 → Kn F w0 w ((bl, 72, [v2]) :: (Mk' ++ (Mi ++ (M2 ++ (MMn ++ X))))) → NdRet F w0 ((b, 106, [.slice (some ⟨gk, 0, none⟩) ks.length ck, Value.slice (some ⟨gp, 0, none⟩) kids.length cp]) :: (Mk ++ ([(gp, 37, ps ++ jp)] ++ MM))) L bl (ns ++ ((nodesL (nodesT d) kids base).1 ++ [⟨false, [], ks, (nodesL (nodesT d) kids base).2⟩])) (.returned (.int .i64 ns2.length)) w := by
        intro w v2 M2 hS2 h
        rw [← List.append_assoc ns, ← hns2]
        refine ⟨rint (by rw [List.length_append]; show (ns2.length : Int) = ((ns2.length + 1 : Nat) : Int) - 1; omega), _, ⟨v2, M2, qs ++ [.agg #[.bool false, .slice none 0 0, .slice ak ks.length ck', .slice ai kids.length ci]], MMn ++ (([] ++ (Mk' ++ Mi)) ++ []), rfl, ?_, ?_⟩, HB.out w _ (Kn.mv h [] (fun f => by simp only [wt_append, wt_cons, wt_nil]; omega))⟩
        · rw [flatV_append]
          exact hS2.cg (by rw [List.length_append]; rfl) rfl
        · exact hReps.app (.cons ⟨_, _, _, [], Mk', Mi, rfl, .nil rfl rfl, hSk, hSi.cg (nodesL_kids _ _ _).symm rfl, rfl⟩ .nil)
      have HF := Lib.hid hfin
      have hw : IntKind.i64.wrap (((ns2.length + 1 : Nat) : Int) - 1) = (ns2.length : Int) := by rw [IntKind.wrap_i64]; omega
      have hw2 : IntKind.i64.wrap (((ns2.length : Int) + 1) - 1) = (ns2.length : Int) := by rw [IntKind.wrap_i64]; omega
      clear hfin hReps hns2 hK
      have hK := hK1
      clear hK1
      go_wp2_with fail
      apply wp_meet3 hK
      case h =>
        (refine wp_region_sub hK [(bn, 77, [.bool false, .slice none 0 0, .slice ak ks.length ck', .slice ai kids.length ci])] (by kernel_rfl) ?_; (try clear hK); intro w hK hS); (refine KS_take 0 (by kernel_rfl) (by decide +kernel) (by decide +kernel) (by exact fun _ _ _ h => h) (by rfl) (by intro w hSw; go_simp; with_reducible rfl) hS ?_; (try simp only [Act.put, List.setIfInBounds_toArray, List.set_cons_zero, List.set_cons_succ])); (refine KS_take 1 (by kernel_rfl) (by decide +kernel) (by decide +kernel) (by exact fun _ _ _ h => h) (by rfl) (by intro w hSw; go_simp; with_reducible rfl) hS ?_; (try simp only [Act.put, List.setIfInBounds_toArray, List.set_cons_zero, List.set_cons_succ])); (refine KS_take 2 (by kernel_rfl) (by decide +kernel) (by decide +kernel) (by exact fun _ _ _ h => h) (by rfl) (by intro w hSw; go_simp; with_reducible rfl) hS ?_; (try simp only [Act.put, List.setIfInBounds_toArray, List.set_cons_zero, List.set_cons_succ])); (refine KS_take 4 (by kernel_rfl) (by decide +kernel) (by decide +kernel) (by exact fun _ _ _ h => h) (by rfl) (by exact KS_load _ _ rfl _ _ rfl) hS ?_; (try simp only [Act.put, List.setIfInBounds_toArray, List.set_cons_zero, List.set_cons_succ])); refine KS_two 3 5 (by decide +kernel) (by rfl) (by rfl) (fun K hk => ?_) (fun K hk => ?_)
        · refine KO_load1 hK _ _ rfl _ _ rfl ?_
          (refine hk.out _ _ hK.subs (fun hS => ?_); clear hk K; (try simp only [Act.put, List.setIfInBounds_toArray, List.set_cons_zero, List.set_cons_succ]))
          (refine KS_one 5 (by decide +kernel) (by rfl) (fun K hk => ?_); (refine KO_buildSlice hK _ _ _ rfl [(0, .agg #[.bool false, .slice none 0 0, .slice ak ks.length ck', .slice ai kids.length ci])] rfl ?_; (try clear hK); intro bx w hK); (refine hk.out _ _ hK.subs (fun hS => ?_); clear hk K; (try simp only [Act.put, List.setIfInBounds_toArray, List.set_cons_zero, List.set_cons_succ])))
          (refine KS_one 6 (by decide +kernel) (by rfl) (fun K hk => ?_); ((refine KO_appS (M := Ml) hK.in3m hSl _ _ _ _ rfl rfl rfl (Sl.src (Sl.whole (e := 77) (g := bx) (n := 1) (size := 4) (xs := [.bool false, .slice none 0 0, .slice ak ks.length ck', .slice ai kids.length ci]) rfl (by unfold maxLen; omega)) (by intro u hu; simp only [List.mem_cons, List.not_mem_nil, or_false] at hu; rcases hu with rfl | rfl | rfl | rfl <;> first | rfl | exact hSi.one | exact hSk.one) Try.underlying72 (Kn.subs (L' := [(bx, 77, [.bool false, .slice none 0 0, .slice ak ks.length ck', .slice ai kids.length ci])]) hK).blk) (by omega) (by decide) ?_; (try clear hK); intro v2 M2 w hS2 hK'; have hK := hK'.out3m; clear hK')); (refine hk.out _ _ hK.subs (fun hS => ?_); clear hk K; (try simp only [Act.put, List.setIfInBounds_toArray, List.set_cons_zero, List.set_cons_succ]))); (refine KS_take 7 (by kernel_rfl) (by decide +kernel) (by decide +kernel) (by exact fun _ _ _ h => h) (by rfl) (by intro w hSw; go_simp; with_reducible rfl) hS ?_; (try simp only [Act.put, List.setIfInBounds_toArray, List.set_cons_zero, List.set_cons_succ])); (refine KS_one 8 (by decide +kernel) (by rfl) (fun K hk => ?_); ((refine KO_store1 hK _ _ _ rfl _ _ rfl _ (by conv => lhs; whnf) hS2.one ?_; (try clear hK); intro w hK)); (refine hk.out _ _ hK.subs (fun hS => ?_); clear hk K; (try simp only [Act.put, List.setIfInBounds_toArray, List.set_cons_zero, List.set_cons_succ]))); (refine wpAnyH_done (by kernel_rfl) ?_ _); exact ⟨bx, v2, M2, rfl, hS2, hK⟩
        · refine KO_buildSlice hK _ _ _ rfl [(0, .agg #[.bool false, .slice none 0 0, .slice ak ks.length ck', .slice ai kids.length ci])] rfl ?_; (try clear hK); intro bx w hK
          (refine hk.out _ _ hK.subs (fun hS => ?_); clear hk K; (try simp only [Act.put, List.setIfInBounds_toArray, List.set_cons_zero, List.set_cons_succ]))
          (refine KS_one 3 (by decide +kernel) (by rfl) (fun K hk => ?_); (refine KO_load1 hK _ _ rfl _ _ rfl ?_); (refine hk.out _ _ hK.subs (fun hS => ?_); clear hk K; (try simp only [Act.put, List.setIfInBounds_toArray, List.set_cons_zero, List.set_cons_succ])))
          (refine KS_one 6 (by decide +kernel) (by rfl) (fun K hk => ?_); ((refine KO_appS (M := Ml) hK.in3m hSl _ _ _ _ rfl rfl rfl (Sl.src (Sl.whole (e := 77) (g := bx) (n := 1) (size := 4) (xs := [.bool false, .slice none 0 0, .slice ak ks.length ck', .slice ai kids.length ci]) rfl (by unfold maxLen; omega)) (by intro u hu; simp only [List.mem_cons, List.not_mem_nil, or_false] at hu; rcases hu with rfl | rfl | rfl | rfl <;> first | rfl | exact hSi.one | exact hSk.one) Try.underlying72 (Kn.subs (L' := [(bx, 77, [.bool false, .slice none 0 0, .slice ak ks.length ck', .slice ai kids.length ci])]) hK).blk) (by omega) (by decide) ?_; (try clear hK); intro v2 M2 w hS2 hK'; have hK := hK'.out3m; clear hK')); (refine hk.out _ _ hK.subs (fun hS => ?_); clear hk K; (try simp only [Act.put, List.setIfInBounds_toArray, List.set_cons_zero, List.set_cons_succ]))); (refine KS_take 7 (by kernel_rfl) (by decide +kernel) (by decide +kernel) (by exact fun _ _ _ h => h) (by rfl) (by intro w hSw; go_simp; with_reducible rfl) hS ?_; (try simp only [Act.put, List.setIfInBounds_toArray, List.set_cons_zero, List.set_cons_succ])); (refine KS_one 8 (by decide +kernel) (by rfl) (fun K hk => ?_); ((refine KO_store1 hK _ _ _ rfl _ _ rfl _ (by conv => lhs; whnf) hS2.one ?_; (try clear hK); intro w hK)); (refine hk.out _ _ hK.subs (fun hS => ?_); clear hk K; (try simp only [Act.put, List.setIfInBounds_toArray, List.set_cons_zero, List.set_cons_succ]))); (refine wpAnyH_done (by kernel_rfl) ?_ _); exact ⟨bx, v2, M2, rfl, hS2, hK⟩
      case k =>
        clear hK
        intro bx v2 M2 w hS2 hK
        obtain ⟨a2, c2, rfl⟩ := hS2.val2
        go_wp2_with ((with_reducible change wpList _ _ _ (_ :: _) _ _); first | ((with_reducible change wpList _ _ _ (Oper.mk _ (Op.load _ _) _ _ _ _ :: _) _ _); first | (refine KL_load1 hK (by rfl) _ _ rfl _ _ rfl ?_) | (refine KL_load hK (by rfl) _ _ rfl _ _ rfl ?_)) | ((with_reducible change wpList _ _ _ (Oper.mk _ (Op.store _ _ _) _ _ _ _ :: _) _ _); first | (refine KL_store1 hK (by rfl) _ _ _ rfl _ _ rfl _ (by conv => lhs; whnf) (by rfl) ?_; clear hK; intro w hK) | (refine KL_store hK (by rfl) _ _ _ rfl _ _ rfl _ rfl ?_; clear hK; intro w hK)) | ((with_reducible change wpList _ _ _ (Oper.mk _ (Op.alloc _) _ _ _ _ :: _) _ _); refine KL_alloc hK (by rfl) _ rfl ?_; clear hK; intro b w hK) | ((with_reducible change wpList _ _ _ (Oper.mk _ (Op.box _ _) _ _ _ _ :: _) _ _); refine KL_box hK (by rfl) _ _ rfl _ (by conv => lhs; whnf) ?_; clear hK; intro b w hK) | ((with_reducible change wpList _ _ _ (Oper.mk _ (Op.build _ _) _ _ _ _ :: _) _ _); first | (refine KL_build0 (by rfl) _ rfl ?_) | (refine KL_build1 (by rfl) _ _ _ rfl _ (by conv => lhs; whnf) ?_) | (refine KL_build2 (by rfl) _ _ _ _ _ rfl _ (by conv => lhs; whnf) _ (by conv => lhs; whnf) ?_) | (refine KL_build3 (by rfl) _ _ _ _ _ _ _ rfl _ (by conv => lhs; whnf) _ (by conv => lhs; whnf) _ (by conv => lhs; whnf) ?_) | (refine KL_build4 (by rfl) _ _ _ _ _ _ _ _ _ rfl _ (by conv => lhs; whnf) _ (by conv => lhs; whnf) _ (by conv => lhs; whnf) _ (by conv => lhs; whnf) ?_) | (refine KL_build5 (by rfl) _ _ _ _ _ _ _ _ _ _ _ rfl _ (by conv => lhs; whnf) _ (by conv => lhs; whnf) _ (by conv => lhs; whnf) _ (by conv => lhs; whnf) _ (by conv => lhs; whnf) ?_)) | ((with_reducible change wpList _ _ _ (Oper.mk _ (Op.binOp _ _ _ _ _) _ _ _ _ :: _) _ _); refine KL_cmp (by rfl) _ _ _ _ _ rfl _ _ rfl rfl ?_) | ((with_reducible change wpList _ _ _ (Oper.mk _ (Op.call _) _ _ _ _ :: _) _ _); refine KL_copy hK (by rfl) _ _ _ _ rfl _ _ _ _ _ _ _ _ rfl rfl _ _ (by first | exact Nat.min_eq_left (by first | decide | omega) | exact Nat.min_eq_right (by first | decide | omega)) (by first | exact Nat.mul_one _ | (conv => lhs; simp only [Nat.reduceMul])) ?_; clear hK; intro w hK) | ((with_reducible change wpList _ _ _ (Oper.mk _ (Op.index _ _ _) _ _ _ _ :: _) _ _); refine KL_index (by rfl) _ _ _ rfl _ rfl _ rfl _ (by conv => lhs; simp only [Int.reduceToNat, Int.toNat_natCast]) (by first | decide | omega) (by first | decide | omega) ?_) | ((with_reducible change wpList _ _ _ (Oper.mk _ (Op.sliceToArrayPointer _ _) _ _ _ _ :: _) _ _); refine KL_arr (by rfl) _ _ rfl _ _ _ rfl (by first | decide | omega) ?_))
        go_ret
        exact HF.out _ _ _ hS2 ((hK.tl rfl).tl rfl)
theorem nodes_c : ∀ {d : Nat} {F : Nat → Prop} {w0 w : World} {L M Mn : Mem} {p : Value} {t : Tr d} {bl : Nat} {ns : List NodeV}, Kn F w0 w (M ++ (Mn ++ L)) → Rep d t p M → NodesAt bl ns Mn → Ok d t → Kids2 d t → ns.length + (nodesT d t ns.length).length ≤ 900000 → Calls Try.prog 47 #[p, .pointer (some ⟨bl, 0, none⟩)] w (NdRet F w0 M L bl (ns ++ nodesT d t ns.length))
  | 0, _, _, _, _, _, _, _, es, _, ns, hK, hR, hN, ho, _, hb => nodes0_c hK hR hN (by have := ho.2; omega) (by have h1 : (nodesT 0 es ns.length).length = 1 := rfl; omega)
  | _ + 1, _, _, _, _, _, _, _, _, _, _, hK, hR, hN, ho, h2, hb => nodesI_c (fun a b c d e f => nodes_c a b c d e f) hK hR hN ho h2 hb
end Go.Proofs.Ytpkhomfblilkhaa.E
