/- law16: awake walked. -/
import Derived.Test.YtpkhomfblilkhaaN4
namespace Go.Proofs.Ytpkhomfblilkhaa.E
set_option linter.all false
open Go Go.RowKit

theorem isB7 : IsB 7 := ⟨by decide, by decide⟩
def e7 (k : Nat) : Ent := entI k 7 isB7
def L13 : List Ent := (List.range 13).map fun i => e7 (12 - i)
def S13 : List Ent := (List.range 13).map e7
theorem q13_1 : insAll L13 = S13 := by decide +kernel
theorem q13_2 : S13.find? (behind (keyI 3).n false) = some (e7 4) := by decide +kernel
theorem q13_3 : hasN S13 (keyI 5).n = true := by decide +kernel
theorem q13_4 : hasN (delE S13 (keyI 5).n) (keyI 5).n = false := by decide +kernel
theorem q13_5 : (delE (delE S13 (keyI 5).n) (keyI 5).n).length = 12 := by decide +kernel
theorem q13_6 : (e7 4).ky = keyI 4 := entI_ky 4 7 isB7
theorem ins13 {j : Nat} (h : j < 13) : insAll (L13.take (j + 1)) = insE (insAll (L13.take j)) (entI (12 - (j : Int)) 7 isB7) := by
  have hl : j < L13.length := h
  have e : L13[j]'hl = entI (12 - (j : Int)) 7 isB7 := by
    have e1 : L13[j]'hl = e7 (12 - j) := by simp [L13]
    refine e1.trans ?_
    have : ((12 - j : Nat) : Int) = 12 - (j : Int) := by omega
    unfold e7
    rw [this]
  rw [insAll_next hl, e]
instance (priority := 2000) {k : Ky} : Cmp Try.prog .eql 23 (U k.b) (U k.b) true := ⟨fun w => by rw [eql_key]; simp⟩
theorem Nodes_y {F : Nat → Prop} {w0 w : World} {L M : Mem} {b : Nat} {es : List Ent} (hT : Tree b es M) (hn : es.length ≤ 1000000) (Y : Mem) (hK : Kn F w0 w (Y ++ (M ++ L))) : Calls Try.prog 32 #[.pointer (some ⟨b, 0, none⟩)] w (NdsRet F w0 (Y ++ (M ++ L)) es) := by
  have h1 : Kn F w0 w (M ++ (Y ++ L)) := (Kn.mv hK [] (fun f => by simp only [wt_append, wt_cons, wt_nil]; omega))
  refine (Nodes_t h1 hT hn).mono ?_
  rintro r w' ⟨x, ns, v, Mv, ps, MM, a1, a2, a3, rfl, a5, a6, h'⟩
  exact ⟨x, ns, v, Mv, ps, MM, a1, a2, a3, rfl, a5, a6, (Kn.mv h' [] (fun f => by simp only [wt_append, wt_cons, wt_nil]; omega))⟩
theorem After_y {F : Nat → Prop} {w0 w : World} {L M : Mem} {b : Nat} {es : List Ent} (k : Ky) (wi : Bool) (hT : Tree b es M) (Y : Mem) (hK : Kn F w0 w (Y ++ (M ++ L))) : Calls Try.prog 36 #[.pointer (some ⟨b, 0, none⟩), .agg (U k.b).toArray, .bool wi] w (EntRet F w0 (Y ++ (M ++ L)) (es.find? (behind k.n wi))) := by
  have h1 : Kn F w0 w (M ++ (Y ++ L)) := (Kn.mv hK [] (fun f => by simp only [wt_append, wt_cons, wt_nil]; omega))
  refine (After_t k wi h1 hT).mono ?_
  rintro r w' ⟨rfl, h'⟩
  exact ⟨rfl, (Kn.mv h' [] (fun f => by simp only [wt_append, wt_cons, wt_nil]; omega))⟩
theorem Len_y {F : Nat → Prop} {w0 w : World} {L M : Mem} {b : Nat} {es : List Ent} (hT : Tree b es M) (Y : Mem) (hK : Kn F w0 w (Y ++ (M ++ L))) : Calls Try.prog 20 #[.pointer (some ⟨b, 0, none⟩)] w fun r w' => r = .returned (.int .i64 es.length) ∧ Kn F w0 w' (Y ++ (M ++ L)) := by
  have h1 : Kn F w0 w (M ++ (Y ++ L)) := (Kn.mv hK [] (fun f => by simp only [wt_append, wt_cons, wt_nil]; omega))
  refine (Len_t h1 hT).mono ?_
  rintro r w' ⟨rfl, h'⟩
  exact ⟨rfl, (Kn.mv h' [] (fun f => by simp only [wt_append, wt_cons, wt_nil]; omega))⟩
theorem Del_y {F : Nat → Prop} {w0 w : World} {L M : Mem} {b : Nat} {es : List Ent} (k : Ky) (hT : Tree b es M) (hn : es.length ≤ 1000000) (Y : Mem) (hK : Kn F w0 w (Y ++ (M ++ L))) :
    Calls Try.prog 24 #[.pointer (some ⟨b, 0, none⟩), .agg (U k.b).toArray] w fun r w' => r = .returned (.int .i64 (if hasN es k.n = true then 0 else 6)) ∧ ∃ M', Tree b (delE es k.n) M' ∧ Kn F w0 w' (Y ++ (M' ++ L)) := by
  have h1 : Kn F w0 w (M ++ (Y ++ L)) := (Kn.mv hK [] (fun f => by simp only [wt_append, wt_cons, wt_nil]; omega))
  refine (Del_t k h1 hT hn).mono ?_
  rintro r w' ⟨rfl, M', hM, h'⟩
  exact ⟨rfl, M', hM, (Kn.mv h' [] (fun f => by simp only [wt_append, wt_cons, wt_nil]; omega))⟩
set_option maxRecDepth 20000 in
set_option maxHeartbeats 3200000 in
theorem awake16_c (w : World) : Calls Try.prog 27 #[] w fun r w' => r = .returned (.bool true) ∧ Below w.heap.size w w' := by
  refine Kn.begin (fun w0 hK => ?_)
  go_enter Try.func27, Try.ntmps27
  go_wp2_with fail
  refine (New_t hK).mono ?_
  rintro r w1 ⟨bt, Mt, rfl, hTr, hK'⟩; clear hK; have hK := hK'; clear hK'
  go_wp2_with fail
  go_loopw [2] (fun n wr => ∃ (j : Nat) (Mt : Mem), j ≤ L13.length ∧ n = .int .i64 j ∧ Tree bt (insAll (L13.take j)) Mt ∧ Kn Nil w0 wr (Mt ++ [])) (fun n _ => 13 - (intOf n).toNat)
  case atStart => exact ⟨0, Mt, Nat.zero_le _, rfl, hTr, hK⟩
  case round =>
    clear hK hTr Mt
    obtain ⟨j, Mt, hj, rfl, hTr, hK⟩ := hrel
    have hl13 : L13.length = 13 := rfl
    have hle := (insAll_le L13 j hj).1
    rw [hl13] at hj
    by_cases hlt : j < 13
    · have hnx := ins13 hlt
      obtain ⟨e, he⟩ : ∃ e, e = entI (12 - (j : Int)) 7 isB7 := ⟨_, rfl⟩
      have hw : IntKind.i64.wrap (12 - (j : Int)) = 12 - (j : Int) := by rw [IntKind.wrap_i64]; omega
      have hE := entry16_c 0 (12 - (j : Int)) 7 hw isB7
      rw [← he] at hnx hE
      have HE := Lib.hid hE
      have HN := Lib.hid hnx
      have q1 : (j : Int) < 13 := by omega
      have q2 : 0 ≤ 12 - (j : Int) := by omega
      clear hE hnx he hl13
      go_wp2_with (first | (go_at_call 29; (with_reducible refine (HE.out _).mono ?_); rintro r w1 ⟨rfl, hb⟩; replace hK := hK.call hb; clear hb) | (go_at_call 22; refine (Set_t e hK hTr (by omega)).mono ?_; rintro r w1 ⟨rfl, Mt', hTr', hK'⟩; clear hK; have hK := hK'; clear hK'; clear hTr; have hTr := hTr'; clear hTr') | ((with_reducible change wpList _ _ _ (_ :: _) _ _); first | ((with_reducible change wpList _ _ _ (Oper.mk _ (Op.load _ _) _ _ _ _ :: _) _ _); first | (refine KL_load1 hK (by rfl) _ _ rfl _ _ rfl ?_) | (refine KL_load hK (by rfl) _ _ rfl _ _ rfl ?_)) | ((with_reducible change wpList _ _ _ (Oper.mk _ (Op.store _ _ _) _ _ _ _ :: _) _ _); first | (refine KL_store1 hK (by rfl) _ _ _ rfl _ _ rfl _ (by conv => lhs; whnf) (by rfl) ?_; clear hK; intro w hK) | (refine KL_store hK (by rfl) _ _ _ rfl _ _ rfl _ rfl ?_; clear hK; intro w hK)) | ((with_reducible change wpList _ _ _ (Oper.mk _ (Op.alloc _) _ _ _ _ :: _) _ _); refine KL_alloc hK (by rfl) _ rfl ?_; clear hK; intro b w hK) | ((with_reducible change wpList _ _ _ (Oper.mk _ (Op.box _ _) _ _ _ _ :: _) _ _); refine KL_box hK (by rfl) _ _ rfl _ (by conv => lhs; whnf) ?_; clear hK; intro b w hK) | ((with_reducible change wpList _ _ _ (Oper.mk _ (Op.build _ _) _ _ _ _ :: _) _ _); first | (refine KL_build0 (by rfl) _ rfl ?_) | (refine KL_build1 (by rfl) _ _ _ rfl _ (by conv => lhs; whnf) ?_) | (refine KL_build2 (by rfl) _ _ _ _ _ rfl _ (by conv => lhs; whnf) _ (by conv => lhs; whnf) ?_) | (refine KL_build3 (by rfl) _ _ _ _ _ _ _ rfl _ (by conv => lhs; whnf) _ (by conv => lhs; whnf) _ (by conv => lhs; whnf) ?_) | (refine KL_build4 (by rfl) _ _ _ _ _ _ _ _ _ rfl _ (by conv => lhs; whnf) _ (by conv => lhs; whnf) _ (by conv => lhs; whnf) _ (by conv => lhs; whnf) ?_) | (refine KL_build5 (by rfl) _ _ _ _ _ _ _ _ _ _ _ rfl _ (by conv => lhs; whnf) _ (by conv => lhs; whnf) _ (by conv => lhs; whnf) _ (by conv => lhs; whnf) _ (by conv => lhs; whnf) ?_)) | ((with_reducible change wpList _ _ _ (Oper.mk _ (Op.binOp _ _ _ _ _) _ _ _ _ :: _) _ _); refine KL_cmp (by rfl) _ _ _ _ _ rfl _ _ rfl rfl ?_) | ((with_reducible change wpList _ _ _ (Oper.mk _ (Op.call _) _ _ _ _ :: _) _ _); refine KL_copy hK (by rfl) _ _ _ _ rfl _ _ _ _ _ _ _ _ rfl rfl _ _ (by first | exact Nat.min_eq_left (by first | decide | omega) | exact Nat.min_eq_right (by first | decide | omega)) (by first | exact Nat.mul_one _ | (conv => lhs; simp only [Nat.reduceMul])) ?_; clear hK; intro w hK) | ((with_reducible change wpList _ _ _ (Oper.mk _ (Op.index _ _ _) _ _ _ _ :: _) _ _); refine KL_index (by rfl) _ _ _ rfl _ rfl _ rfl _ (by conv => lhs; simp only [Int.reduceToNat, Int.toNat_natCast]) (by first | decide | omega) (by first | decide | omega) ?_) | ((with_reducible change wpList _ _ _ (Oper.mk _ (Op.sliceToArrayPointer _ _) _ _ _ _ :: _) _ _); refine KL_arr (by rfl) _ _ rfl _ _ _ rfl (by first | decide | omega) ?_)))
      go_roundw
      case rel => exact ⟨j + 1, Mt', hlt, rfl, by rw [HN.out]; exact hTr, hK⟩
      case measure => simp [intOf]; omega
    · obtain rfl : j = 13 := by omega
      rw [show L13.take 13 = L13 from rfl, q13_1] at hTr
      clear hle hj hl13 hlt
      go_wp2_with fail
      refine (Nodes_y hTr (by decide) [] hK).mono ?_
      rintro r w1 ⟨x, ns, v, Mv, ps, MM, hi, hes, hns, rfl, hSn, hRn, hK'⟩; clear hK; have hK := hK'; clear hK'
      obtain ⟨np, nq, nr, hn3, hkl⟩ := nodes_13 hi (by rw [hes]; rfl) 0
      rw [hn3] at hns
      subst hns
      rw [show ((([np, nq, nr] : List NodeV).length : Int) - 1) = 2 from rfl]
      replace hSn := hSn.cg (n' := 3) rfl rfl
      obtain ⟨gv, cv, jv, rfl, rfl, _, _, _, _⟩ := hSn.pos (by decide)
      have hK1 : Kn Nil w0 w1 ((gv, 77, flatV ps ++ jv) :: (Mt ++ [])) := (Kn.mv hK MM (fun f => by simp only [wt_append, wt_cons, wt_nil]; omega))
      obtain ⟨vi, hvi, hat0⟩ : ∃ vi : Value, (∃ a c, vi = .slice a 2 c) ∧ (flatV ps ++ jv)[11]? = some vi := by
        cases hRn with
        | cons h1 h =>
        cases h with
        | cons h2 h =>
        cases h with
        | cons h3 h =>
        cases h
        obtain ⟨_, _, _, _, _, _, rfl, _⟩ := h1
        obtain ⟨_, _, _, _, _, _, rfl, _⟩ := h2
        obtain ⟨_, _, vi, _, _, Mi, rfl, _, _, hs, _⟩ := h3
        rw [hkl] at hs
        exact ⟨vi, hs.val2, rfl⟩
      obtain ⟨ai, ci, rfl⟩ := hvi
      haveI hat : At (flatV ps ++ jv) 11 (.slice ai 2 ci) := ⟨hat0⟩
      haveI qe : Cmp Try.prog .eql 23 (U (e7 4).ky.b) (U (keyI 4).b) true := ⟨fun w => by rw [q13_6, eql_key]; simp⟩
      clear hK hRn hSn hkl hn3 hes hi hat0
      have hK := hK1
      clear hK1
      have hA : ∀ w, Kn Nil w0 w ((gv, 77, flatV ps ++ jv) :: (Mt ++ [])) → Calls Try.prog 36 #[.pointer (some ⟨bt, 0, none⟩), .agg (U (keyI 3).b).toArray, .bool false] w fun r w' => r = .returned (.tuple #[.agg (U (e7 4).b).toArray, .bool true]) ∧ Kn Nil w0 w' ((gv, 77, flatV ps ++ jv) :: (Mt ++ [])) := fun w h => by
        refine (After_y (keyI 3) false hTr [_] h).mono ?_
        rw [q13_2]
        rintro r w' ⟨rfl, h'⟩
        exact ⟨rfl, h'⟩
      have HA := Lib.hid hA
      clear hA
      go_wp2_with (first | (go_at_call 30; (with_reducible refine (key16_c 3 (by decide) _).mono ?_); rintro e w1 ⟨rfl, hb⟩; replace hK := hK.call hb; clear hb) | (go_at_call 36; refine (HA.out _ hK).mono ?_; rintro r w1 ⟨rfl, hK'⟩; clear hK; have hK := hK'; clear hK') | ((with_reducible change wpList _ _ _ (_ :: _) _ _); first | ((with_reducible change wpList _ _ _ (Oper.mk _ (Op.load _ _) _ _ _ _ :: _) _ _); first | (refine KL_load1 hK (by rfl) _ _ rfl _ _ rfl ?_) | (refine KL_load hK (by rfl) _ _ rfl _ _ rfl ?_)) | ((with_reducible change wpList _ _ _ (Oper.mk _ (Op.store _ _ _) _ _ _ _ :: _) _ _); first | (refine KL_store1 hK (by rfl) _ _ _ rfl _ _ rfl _ (by conv => lhs; whnf) (by rfl) ?_; clear hK; intro w hK) | (refine KL_store hK (by rfl) _ _ _ rfl _ _ rfl _ rfl ?_; clear hK; intro w hK)) | ((with_reducible change wpList _ _ _ (Oper.mk _ (Op.alloc _) _ _ _ _ :: _) _ _); refine KL_alloc hK (by rfl) _ rfl ?_; clear hK; intro b w hK) | ((with_reducible change wpList _ _ _ (Oper.mk _ (Op.box _ _) _ _ _ _ :: _) _ _); refine KL_box hK (by rfl) _ _ rfl _ (by conv => lhs; whnf) ?_; clear hK; intro b w hK) | ((with_reducible change wpList _ _ _ (Oper.mk _ (Op.build _ _) _ _ _ _ :: _) _ _); first | (refine KL_build0 (by rfl) _ rfl ?_) | (refine KL_build1 (by rfl) _ _ _ rfl _ (by conv => lhs; whnf) ?_) | (refine KL_build2 (by rfl) _ _ _ _ _ rfl _ (by conv => lhs; whnf) _ (by conv => lhs; whnf) ?_) | (refine KL_build3 (by rfl) _ _ _ _ _ _ _ rfl _ (by conv => lhs; whnf) _ (by conv => lhs; whnf) _ (by conv => lhs; whnf) ?_) | (refine KL_build4 (by rfl) _ _ _ _ _ _ _ _ _ rfl _ (by conv => lhs; whnf) _ (by conv => lhs; whnf) _ (by conv => lhs; whnf) _ (by conv => lhs; whnf) ?_) | (refine KL_build5 (by rfl) _ _ _ _ _ _ _ _ _ _ _ rfl _ (by conv => lhs; whnf) _ (by conv => lhs; whnf) _ (by conv => lhs; whnf) _ (by conv => lhs; whnf) _ (by conv => lhs; whnf) ?_)) | ((with_reducible change wpList _ _ _ (Oper.mk _ (Op.binOp _ _ _ _ _) _ _ _ _ :: _) _ _); refine KL_cmp (by rfl) _ _ _ _ _ rfl _ _ rfl rfl ?_) | ((with_reducible change wpList _ _ _ (Oper.mk _ (Op.call _) _ _ _ _ :: _) _ _); refine KL_copy hK (by rfl) _ _ _ _ rfl _ _ _ _ _ _ _ _ rfl rfl _ _ (by first | exact Nat.min_eq_left (by first | decide | omega) | exact Nat.min_eq_right (by first | decide | omega)) (by first | exact Nat.mul_one _ | (conv => lhs; simp only [Nat.reduceMul])) ?_; clear hK; intro w hK) | ((with_reducible change wpList _ _ _ (Oper.mk _ (Op.index _ _ _) _ _ _ _ :: _) _ _); refine KL_index (by rfl) _ _ _ rfl _ rfl _ rfl _ (by conv => lhs; simp only [Int.reduceToNat, Int.toNat_natCast]) (by first | decide | omega) (by first | decide | omega) ?_) | ((with_reducible change wpList _ _ _ (Oper.mk _ (Op.sliceToArrayPointer _ _) _ _ _ _ :: _) _ _); refine KL_arr (by rfl) _ _ rfl _ _ _ rfl (by first | decide | omega) ?_)))
      clear HA
      go_wp2_with (first | (go_at_call 30; (with_reducible refine (key16_c 5 (by decide) _).mono ?_); rintro e w1 ⟨rfl, hb⟩; replace hK := hK.call hb; clear hb) | (go_at_call 24; refine (Del_y (keyI 5) hTr (by decide +kernel) [_, _] hK).mono ?_; rw [q13_3, if_pos rfl]; rintro r w1 ⟨rfl, Mt1, hTr1, hK'⟩; clear hK; have hK := hK'; clear hK') | (go_at_call 24; refine (Del_y (keyI 5) hTr1 (by decide +kernel) [_, _] hK).mono ?_; rw [q13_4, if_neg (by decide)]; rintro r w1 ⟨rfl, Mt2, hTr2, hK'⟩; clear hK; have hK := hK'; clear hK') | ((with_reducible change wpList _ _ _ (_ :: _) _ _); first | ((with_reducible change wpList _ _ _ (Oper.mk _ (Op.load _ _) _ _ _ _ :: _) _ _); first | (refine KL_load1 hK (by rfl) _ _ rfl _ _ rfl ?_) | (refine KL_load hK (by rfl) _ _ rfl _ _ rfl ?_)) | ((with_reducible change wpList _ _ _ (Oper.mk _ (Op.store _ _ _) _ _ _ _ :: _) _ _); first | (refine KL_store1 hK (by rfl) _ _ _ rfl _ _ rfl _ (by conv => lhs; whnf) (by rfl) ?_; clear hK; intro w hK) | (refine KL_store hK (by rfl) _ _ _ rfl _ _ rfl _ rfl ?_; clear hK; intro w hK)) | ((with_reducible change wpList _ _ _ (Oper.mk _ (Op.alloc _) _ _ _ _ :: _) _ _); refine KL_alloc hK (by rfl) _ rfl ?_; clear hK; intro b w hK) | ((with_reducible change wpList _ _ _ (Oper.mk _ (Op.box _ _) _ _ _ _ :: _) _ _); refine KL_box hK (by rfl) _ _ rfl _ (by conv => lhs; whnf) ?_; clear hK; intro b w hK) | ((with_reducible change wpList _ _ _ (Oper.mk _ (Op.build _ _) _ _ _ _ :: _) _ _); first | (refine KL_build0 (by rfl) _ rfl ?_) | (refine KL_build1 (by rfl) _ _ _ rfl _ (by conv => lhs; whnf) ?_) | (refine KL_build2 (by rfl) _ _ _ _ _ rfl _ (by conv => lhs; whnf) _ (by conv => lhs; whnf) ?_) | (refine KL_build3 (by rfl) _ _ _ _ _ _ _ rfl _ (by conv => lhs; whnf) _ (by conv => lhs; whnf) _ (by conv => lhs; whnf) ?_) | (refine KL_build4 (by rfl) _ _ _ _ _ _ _ _ _ rfl _ (by conv => lhs; whnf) _ (by conv => lhs; whnf) _ (by conv => lhs; whnf) _ (by conv => lhs; whnf) ?_) | (refine KL_build5 (by rfl) _ _ _ _ _ _ _ _ _ _ _ rfl _ (by conv => lhs; whnf) _ (by conv => lhs; whnf) _ (by conv => lhs; whnf) _ (by conv => lhs; whnf) _ (by conv => lhs; whnf) ?_)) | ((with_reducible change wpList _ _ _ (Oper.mk _ (Op.binOp _ _ _ _ _) _ _ _ _ :: _) _ _); refine KL_cmp (by rfl) _ _ _ _ _ rfl _ _ rfl rfl ?_) | ((with_reducible change wpList _ _ _ (Oper.mk _ (Op.call _) _ _ _ _ :: _) _ _); refine KL_copy hK (by rfl) _ _ _ _ rfl _ _ _ _ _ _ _ _ rfl rfl _ _ (by first | exact Nat.min_eq_left (by first | decide | omega) | exact Nat.min_eq_right (by first | decide | omega)) (by first | exact Nat.mul_one _ | (conv => lhs; simp only [Nat.reduceMul])) ?_; clear hK; intro w hK) | ((with_reducible change wpList _ _ _ (Oper.mk _ (Op.index _ _ _) _ _ _ _ :: _) _ _); refine KL_index (by rfl) _ _ _ rfl _ rfl _ rfl _ (by conv => lhs; simp only [Int.reduceToNat, Int.toNat_natCast]) (by first | decide | omega) (by first | decide | omega) ?_) | ((with_reducible change wpList _ _ _ (Oper.mk _ (Op.sliceToArrayPointer _ _) _ _ _ _ :: _) _ _); refine KL_arr (by rfl) _ _ rfl _ _ _ rfl (by first | decide | omega) ?_)))
      clear hTr hTr1
      have hLen : ∀ w, Kn Nil w0 w ([(b, 28, U (e7 4).b), (gv, 77, flatV ps ++ jv)] ++ (Mt2 ++ [])) → Calls Try.prog 20 #[.pointer (some ⟨bt, 0, none⟩)] w fun r w' => r = .returned (.int .i64 12) ∧ Kn Nil w0 w' ([(b, 28, U (e7 4).b), (gv, 77, flatV ps ++ jv)] ++ (Mt2 ++ [])) := fun w h => by
        have h1 := Len_y hTr2 [_, _] h
        rw [q13_5] at h1
        exact h1
      have HL := Lib.hid hLen
      clear hLen hTr2
      (refine wp_region_sub hK [(b, 28, U (e7 4).b), (gv, 77, flatV ps ++ jv)] (by kernel_rfl) ?_; (try clear hK); intro w hK hS)
      (refine KS_take 0 (by kernel_rfl) (by decide +kernel) (by decide +kernel) (by exact fun _ _ _ h => h) (by rfl) (by intro w hSw; go_simp; with_reducible rfl) hS ?_; (try simp only [Act.put, List.setIfInBounds_toArray, List.set_cons_zero, List.set_cons_succ])); (refine KS_take 1 (by kernel_rfl) (by decide +kernel) (by decide +kernel) (by exact fun _ _ _ h => h) (by rfl) (by intro w hSw; go_simp; with_reducible rfl) hS ?_; (try simp only [Act.put, List.setIfInBounds_toArray, List.set_cons_zero, List.set_cons_succ])); (refine KS_take 2 (by kernel_rfl) (by decide +kernel) (by decide +kernel) (by exact fun _ _ _ h => h) (by rfl) (by intro w hSw; go_simp; with_reducible rfl) hS ?_; (try simp only [Act.put, List.setIfInBounds_toArray, List.set_cons_zero, List.set_cons_succ])); (refine KS_take 3 (by kernel_rfl) (by decide +kernel) (by decide +kernel) (by exact fun _ _ _ h => h) (by rfl) (by intro w hSw; go_simp; with_reducible rfl) hS ?_; (try simp only [Act.put, List.setIfInBounds_toArray, List.set_cons_zero, List.set_cons_succ])); (refine KS_take 4 (by kernel_rfl) (by decide +kernel) (by decide +kernel) (by exact fun _ _ _ h => h) (by rfl) (by intro w hSw; go_simp; with_reducible rfl) hS ?_; (try simp only [Act.put, List.setIfInBounds_toArray, List.set_cons_zero, List.set_cons_succ])); (refine KS_take 5 (by kernel_rfl) (by decide +kernel) (by decide +kernel) (by exact fun _ _ _ h => h) (by rfl) (by intro w hSw; go_simp; with_reducible rfl) hS ?_; (try simp only [Act.put, List.setIfInBounds_toArray, List.set_cons_zero, List.set_cons_succ])); (refine KS_take 6 (by kernel_rfl) (by decide +kernel) (by decide +kernel) (by exact fun _ _ _ h => h) (by rfl) (by intro w hSw; go_simp; with_reducible rfl) hS ?_; (try simp only [Act.put, List.setIfInBounds_toArray, List.set_cons_zero, List.set_cons_succ])); (refine KS_take 7 (by kernel_rfl) (by decide +kernel) (by decide +kernel) (by exact fun _ _ _ h => h) (by rfl) (by intro w hSw; go_simp; with_reducible rfl) hS ?_; (try simp only [Act.put, List.setIfInBounds_toArray, List.set_cons_zero, List.set_cons_succ])); (refine KS_take 8 (by kernel_rfl) (by decide +kernel) (by decide +kernel) (by exact fun _ _ _ h => h) (by rfl) (by intro w hSw; go_simp; with_reducible rfl) hS ?_; (try simp only [Act.put, List.setIfInBounds_toArray, List.set_cons_zero, List.set_cons_succ])); (refine KS_take 9 (by kernel_rfl) (by decide +kernel) (by decide +kernel) (by exact fun _ _ _ h => h) (by rfl) (by intro w hSw; go_simp; with_reducible rfl) hS ?_; (try simp only [Act.put, List.setIfInBounds_toArray, List.set_cons_zero, List.set_cons_succ])); (refine KS_take 10 (by kernel_rfl) (by decide +kernel) (by decide +kernel) (by exact fun _ _ _ h => h) (by rfl) (by intro w hSw; go_simp; with_reducible rfl) hS ?_; (try simp only [Act.put, List.setIfInBounds_toArray, List.set_cons_zero, List.set_cons_succ])); (refine KS_take 11 (by kernel_rfl) (by decide +kernel) (by decide +kernel) (by exact fun _ _ _ h => h) (by rfl) (by intro w hSw; go_simp; with_reducible rfl) hS ?_; (try simp only [Act.put, List.setIfInBounds_toArray, List.set_cons_zero, List.set_cons_succ])); (refine KS_take 12 (by kernel_rfl) (by decide +kernel) (by decide +kernel) (by exact fun _ _ _ h => h) (by rfl) (by intro w hSw; go_simp; with_reducible rfl) hS ?_; (try simp only [Act.put, List.setIfInBounds_toArray, List.set_cons_zero, List.set_cons_succ])); (refine KS_take 13 (by kernel_rfl) (by decide +kernel) (by decide +kernel) (by exact fun _ _ _ h => h) (by rfl) (by intro w hSw; go_simp; with_reducible rfl) hS ?_; (try simp only [Act.put, List.setIfInBounds_toArray, List.set_cons_zero, List.set_cons_succ])); (refine KS_take 14 (by kernel_rfl) (by decide +kernel) (by decide +kernel) (by exact fun _ _ _ h => h) (by rfl) (by intro w hSw; go_simp; with_reducible rfl) hS ?_; (try simp only [Act.put, List.setIfInBounds_toArray, List.set_cons_zero, List.set_cons_succ])); (refine KS_take 15 (by kernel_rfl) (by decide +kernel) (by decide +kernel) (by exact fun _ _ _ h => h) (by rfl) (by intro w hSw; go_simp; with_reducible rfl) hS ?_; (try simp only [Act.put, List.setIfInBounds_toArray, List.set_cons_zero, List.set_cons_succ]))
      (refine KS_take 16 (by kernel_rfl) (by decide +kernel) (by decide +kernel) (by exact fun _ _ _ h => h) (by rfl) (by first | exact KS_load1 _ _ rfl _ _ rfl | exact KS_load _ _ rfl _ _ rfl) hS ?_; (try simp only [Act.put, List.setIfInBounds_toArray, List.set_cons_zero, List.set_cons_succ]))
      (refine KS_take 17 (by kernel_rfl) (by decide +kernel) (by decide +kernel) (by exact fun _ _ _ h => h) (by rfl) (by intro w hSw; go_simp; with_reducible rfl) hS ?_; (try simp only [Act.put, List.setIfInBounds_toArray, List.set_cons_zero, List.set_cons_succ])); (refine KS_take 18 (by kernel_rfl) (by decide +kernel) (by decide +kernel) (by exact fun _ _ _ h => h) (by rfl) (by intro w hSw; go_simp; with_reducible rfl) hS ?_; (try simp only [Act.put, List.setIfInBounds_toArray, List.set_cons_zero, List.set_cons_succ])); (refine KS_take 19 (by kernel_rfl) (by decide +kernel) (by decide +kernel) (by exact fun _ _ _ h => h) (by rfl) (by intro w hSw; go_simp; with_reducible rfl) hS ?_; (try simp only [Act.put, List.setIfInBounds_toArray, List.set_cons_zero, List.set_cons_succ])); (refine KS_take 20 (by kernel_rfl) (by decide +kernel) (by decide +kernel) (by exact fun _ _ _ h => h) (by rfl) (by intro w hSw; go_simp; with_reducible rfl) hS ?_; (try simp only [Act.put, List.setIfInBounds_toArray, List.set_cons_zero, List.set_cons_succ])); (refine KS_take 21 (by kernel_rfl) (by decide +kernel) (by decide +kernel) (by exact fun _ _ _ h => h) (by rfl) (by intro w hSw; go_simp; with_reducible rfl) hS ?_; (try simp only [Act.put, List.setIfInBounds_toArray, List.set_cons_zero, List.set_cons_succ])); (refine KS_take 22 (by kernel_rfl) (by decide +kernel) (by decide +kernel) (by exact fun _ _ _ h => h) (by rfl) (by intro w hSw; go_simp; with_reducible rfl) hS ?_; (try simp only [Act.put, List.setIfInBounds_toArray, List.set_cons_zero, List.set_cons_succ])); (refine KS_take 23 (by kernel_rfl) (by decide +kernel) (by decide +kernel) (by exact fun _ _ _ h => h) (by rfl) (by intro w hSw; go_simp; with_reducible rfl) hS ?_; (try simp only [Act.put, List.setIfInBounds_toArray, List.set_cons_zero, List.set_cons_succ])); (refine KS_take 24 (by kernel_rfl) (by decide +kernel) (by decide +kernel) (by exact fun _ _ _ h => h) (by rfl) (by intro w hSw; go_simp; with_reducible rfl) hS ?_; (try simp only [Act.put, List.setIfInBounds_toArray, List.set_cons_zero, List.set_cons_succ]))
      (refine KS_take 25 (by kernel_rfl) (by decide +kernel) (by decide +kernel) (by exact fun _ _ _ h => h) (by rfl) (by exact KS_load _ _ rfl _ _ rfl) hS ?_; (try simp only [Act.put, List.setIfInBounds_toArray, List.set_cons_zero, List.set_cons_succ]))
      (refine KS_one 26 (by decide +kernel) (by rfl) (fun K hk => ?_); (go_simp; (go_at_call 30; (with_reducible refine (key16_c 4 (by decide) _).mono ?_); rintro e w1 ⟨rfl, hb⟩; have hK := hK.call hb; clear hb; dsimp only)); (refine hk.out _ _ hK.subs (fun hS => ?_); clear hk K; (try simp only [Act.put, List.setIfInBounds_toArray, List.set_cons_zero, List.set_cons_succ])))
      (refine KS_take 27 (by kernel_rfl) (by decide +kernel) (by decide +kernel) (by exact fun _ _ _ h => h) (by rfl) (by exact KS_cmp _ _ _ _ _ rfl _ _ rfl rfl) hS ?_; (try simp only [Act.put, List.setIfInBounds_toArray, List.set_cons_zero, List.set_cons_succ]))
      (refine KS_take 28 (by kernel_rfl) (by decide +kernel) (by decide +kernel) (by exact fun _ _ _ h => h) (by rfl) (by intro w hSw; go_simp; with_reducible rfl) hS ?_; (try simp only [Act.put, List.setIfInBounds_toArray, List.set_cons_zero, List.set_cons_succ])); (refine KS_take 29 (by kernel_rfl) (by decide +kernel) (by decide +kernel) (by exact fun _ _ _ h => h) (by rfl) (by intro w hSw; go_simp; with_reducible rfl) hS ?_; (try simp only [Act.put, List.setIfInBounds_toArray, List.set_cons_zero, List.set_cons_succ])); (refine KS_take 30 (by kernel_rfl) (by decide +kernel) (by decide +kernel) (by exact fun _ _ _ h => h) (by rfl) (by intro w hSw; go_simp; with_reducible rfl) hS ?_; (try simp only [Act.put, List.setIfInBounds_toArray, List.set_cons_zero, List.set_cons_succ])); (refine KS_take 31 (by kernel_rfl) (by decide +kernel) (by decide +kernel) (by exact fun _ _ _ h => h) (by rfl) (by intro w hSw; go_simp; with_reducible rfl) hS ?_; (try simp only [Act.put, List.setIfInBounds_toArray, List.set_cons_zero, List.set_cons_succ])); (refine KS_take 32 (by kernel_rfl) (by decide +kernel) (by decide +kernel) (by exact fun _ _ _ h => h) (by rfl) (by intro w hSw; go_simp; with_reducible rfl) hS ?_; (try simp only [Act.put, List.setIfInBounds_toArray, List.set_cons_zero, List.set_cons_succ])); (refine KS_take 33 (by kernel_rfl) (by decide +kernel) (by decide +kernel) (by exact fun _ _ _ h => h) (by rfl) (by intro w hSw; go_simp; with_reducible rfl) hS ?_; (try simp only [Act.put, List.setIfInBounds_toArray, List.set_cons_zero, List.set_cons_succ])); (refine KS_take 34 (by kernel_rfl) (by decide +kernel) (by decide +kernel) (by exact fun _ _ _ h => h) (by rfl) (by intro w hSw; go_simp; with_reducible rfl) hS ?_; (try simp only [Act.put, List.setIfInBounds_toArray, List.set_cons_zero, List.set_cons_succ])); (refine KS_take 35 (by kernel_rfl) (by decide +kernel) (by decide +kernel) (by exact fun _ _ _ h => h) (by rfl) (by intro w hSw; go_simp; with_reducible rfl) hS ?_; (try simp only [Act.put, List.setIfInBounds_toArray, List.set_cons_zero, List.set_cons_succ])); (refine KS_take 36 (by kernel_rfl) (by decide +kernel) (by decide +kernel) (by exact fun _ _ _ h => h) (by rfl) (by intro w hSw; go_simp; with_reducible rfl) hS ?_; (try simp only [Act.put, List.setIfInBounds_toArray, List.set_cons_zero, List.set_cons_succ])); (refine KS_take 37 (by kernel_rfl) (by decide +kernel) (by decide +kernel) (by exact fun _ _ _ h => h) (by rfl) (by intro w hSw; go_simp; with_reducible rfl) hS ?_; (try simp only [Act.put, List.setIfInBounds_toArray, List.set_cons_zero, List.set_cons_succ])); (refine KS_take 38 (by kernel_rfl) (by decide +kernel) (by decide +kernel) (by exact fun _ _ _ h => h) (by rfl) (by intro w hSw; go_simp; with_reducible rfl) hS ?_; (try simp only [Act.put, List.setIfInBounds_toArray, List.set_cons_zero, List.set_cons_succ]))
      (refine KS_one 39 (by decide +kernel) (by rfl) (fun K hk => ?_); ((go_simp; (go_at_call 20; refine (HL.out _ hK).mono ?_; rintro r w1 ⟨rfl, hK'⟩; (try clear hK); have hK := hK'; clear hK'; dsimp only))); (refine hk.out _ _ hK.subs (fun hS => ?_); clear hk K; (try simp only [Act.put, List.setIfInBounds_toArray, List.set_cons_zero, List.set_cons_succ])))
      (refine KS_take 40 (by kernel_rfl) (by decide +kernel) (by decide +kernel) (by exact fun _ _ _ h => h) (by rfl) (by intro w hSw; go_simp; with_reducible rfl) hS ?_; (try simp only [Act.put, List.setIfInBounds_toArray, List.set_cons_zero, List.set_cons_succ])); (refine KS_take 41 (by kernel_rfl) (by decide +kernel) (by decide +kernel) (by exact fun _ _ _ h => h) (by rfl) (by intro w hSw; go_simp; with_reducible rfl) hS ?_; (try simp only [Act.put, List.setIfInBounds_toArray, List.set_cons_zero, List.set_cons_succ])); (refine KS_take 42 (by kernel_rfl) (by decide +kernel) (by decide +kernel) (by exact fun _ _ _ h => h) (by rfl) (by intro w hSw; go_simp; with_reducible rfl) hS ?_; (try simp only [Act.put, List.setIfInBounds_toArray, List.set_cons_zero, List.set_cons_succ]))
      (refine wpAnyH_done (by kernel_rfl) ?_ _)
      go_wp2_with fail
      go_ret
      exact ⟨rfl, hK.below⟩
end Go.Proofs.Ytpkhomfblilkhaa.E
