/- law17: del, set, planted walked. -/
import Derived.Test.YtpkhomfblilkhaaF21
namespace Go.Proofs.Ytpkhomfblilkhaa.E
set_option linter.all false
open Go Go.RowKit

theorem Rd.open {w : World} {v : Value} {es : List Ent} (h : Rd w v es) : ∃ a c, v = .slice a es.length c ∧ es.length ≤ maxLen ∧ (0 < es.length → ∃ g o, a = some ⟨g, o, none⟩ ∧ Old Nil w g o (rows rE es)) := by
  cases h with
  | nil a c => exact ⟨a, c, rfl, Nat.zero_le _, fun h => absurd h (Nat.lt_irrefl 0)⟩
  | row g o c es h0 hg hr hm => exact ⟨_, c, rfl, hm, fun _ => ⟨g, o, rfl, Rd.old hg hr⟩⟩
theorem Kn.drop1 {F : Nat → Prop} {w0 w : World} {M L : Mem} {x : Nat × TypeId × List Value} (hK : Kn F w0 w (M ++ x :: L)) : Kn F w0 w (M ++ L) := hK.sub (List.Sublist.append_left (.cons _ (.refl _)) _)
theorem Kn.head {F : Nat → Prop} {w0 w : World} {M L : Mem} (hK : Kn F w0 w (M ++ L)) : Kn F w0 w M := hK.sub (List.sublist_append_left _ _)
theorem one_src {F : Nat → Prop} {w0 w : World} {L : Mem} (bx : Nat) (e : Ent) (hK : Kn F w0 w L) [hs : Sub [(bx, 28, U e.b)] L] : Src Try.prog 80 40 (.slice (some ⟨bx, 0, none⟩) 1 1) 1 (U e.b) w :=
  Sl.src (Sl.whole (e := 28) (g := bx) (n := 1) (size := 80) (xs := U e.b) (by rw [U_length, e.len]) (by unfold maxLen; omega)) (U_one _) Try.underlying40 (hK.sub hs.out).blk
/-- A row of entries of the function's own. -/
def RowRet (w0 : World) (es : List Ent) : Ending → World → Prop := fun r w' => ∃ v' M', r = .returned v' ∧ Sl 28 80 es.length (rows rE es) v' M' ∧ Kn Nil w0 w' M'
def setR (l : List Ent) (e : Ent) : List Ent := delE l e.n ++ [e]
theorem rows_snoc (es : List Ent) (e : Ent) : rows rE es ++ U e.b = rows rE (es ++ [e]) := by rw [rows_append]; simp [rows, rE]
theorem delE_len_le (l : List Ent) (k : Nat) : (delE l k).length ≤ l.length := List.length_filter_le _ _
theorem delE_next {es : List Ent} {j : Nat} (h : j < es.length) (k : Nat) : delE (es.take (j + 1)) k = if es[j].n = k then delE (es.take j) k else delE (es.take j) k ++ [es[j]] := by
  rw [List.take_succ_eq_append_getElem h, delE_app]
  split <;> rename_i h1 <;> simp [delE, h1]
set_option maxRecDepth 20000 in
set_option maxHeartbeats 1600000 in
theorem ldel_c {w : World} {v : Value} {es : List Ent} (k : Ky) (hr : Rd w v es) (hn : es.length ≤ 900000) : Calls Try.prog 25 #[v, .agg (U k.b).toArray] w (RowRet w (delE es k.n)) := by
  obtain ⟨a, c, rfl, hm, ha⟩ := hr.open
  suffices key : ∀ w0, Kn Nil w0 w [] → (0 < es.length → ∃ g o, a = some ⟨g, o, none⟩ ∧ Old Nil w0 g o (rows rE es)) → Calls Try.prog 25 #[.slice a es.length c, .agg (U k.b).toArray] w (RowRet w0 (delE es k.n)) from key w (Kn.start _ _) ha
  clear ha hr
  intro w0 hK ha
  have HA := Lib.hid ha
  clear ha
  unfold maxLen at hm
  go_enter Try.func25, Try.ntmps25
  go_wp2_with ((with_reducible change wpList _ _ _ (_ :: _) _ _); first | ((with_reducible change wpList _ _ _ (Oper.mk _ (Op.load _ _) _ _ _ _ :: _) _ _); first | (refine KL_load1 hK (by rfl) _ _ rfl _ _ rfl ?_) | (refine KL_load hK (by rfl) _ _ rfl _ _ rfl ?_)) | ((with_reducible change wpList _ _ _ (Oper.mk _ (Op.store _ _ _) _ _ _ _ :: _) _ _); first | (refine KL_store1 hK (by rfl) _ _ _ rfl _ _ rfl _ (by conv => lhs; whnf) (by rfl) ?_; clear hK; intro w hK) | (refine KL_store hK (by rfl) _ _ _ rfl _ _ rfl _ rfl ?_; clear hK; intro w hK)) | ((with_reducible change wpList _ _ _ (Oper.mk _ (Op.alloc _) _ _ _ _ :: _) _ _); refine KL_alloc hK (by rfl) _ rfl ?_; clear hK; intro b w hK) | ((with_reducible change wpList _ _ _ (Oper.mk _ (Op.box _ _) _ _ _ _ :: _) _ _); refine KL_box hK (by rfl) _ _ rfl _ (by conv => lhs; whnf) ?_; clear hK; intro b w hK) | ((with_reducible change wpList _ _ _ (Oper.mk _ (Op.build _ _) _ _ _ _ :: _) _ _); first | (refine KL_build0 (by rfl) _ rfl ?_) | (refine KL_build1 (by rfl) _ _ _ rfl _ (by conv => lhs; whnf) ?_) | (refine KL_build2 (by rfl) _ _ _ _ _ rfl _ (by conv => lhs; whnf) _ (by conv => lhs; whnf) ?_) | (refine KL_build3 (by rfl) _ _ _ _ _ _ _ rfl _ (by conv => lhs; whnf) _ (by conv => lhs; whnf) _ (by conv => lhs; whnf) ?_) | (refine KL_build4 (by rfl) _ _ _ _ _ _ _ _ _ rfl _ (by conv => lhs; whnf) _ (by conv => lhs; whnf) _ (by conv => lhs; whnf) _ (by conv => lhs; whnf) ?_) | (refine KL_build5 (by rfl) _ _ _ _ _ _ _ _ _ _ _ rfl _ (by conv => lhs; whnf) _ (by conv => lhs; whnf) _ (by conv => lhs; whnf) _ (by conv => lhs; whnf) _ (by conv => lhs; whnf) ?_)) | ((with_reducible change wpList _ _ _ (Oper.mk _ (Op.binOp _ _ _ _ _) _ _ _ _ :: _) _ _); refine KL_cmp (by rfl) _ _ _ _ _ rfl _ _ rfl rfl ?_) | ((with_reducible change wpList _ _ _ (Oper.mk _ (Op.call _) _ _ _ _ :: _) _ _); refine KL_copy hK (by rfl) _ _ _ _ rfl _ _ _ _ _ _ _ _ rfl rfl _ _ (by first | exact Nat.min_eq_left (by first | decide | omega) | exact Nat.min_eq_right (by first | decide | omega)) (by first | exact Nat.mul_one _ | (conv => lhs; simp only [Nat.reduceMul])) ?_; clear hK; intro w hK) | ((with_reducible change wpList _ _ _ (Oper.mk _ (Op.index _ _ _) _ _ _ _ :: _) _ _); refine KL_index (by rfl) _ _ _ rfl _ rfl _ rfl _ (by conv => lhs; simp only [Int.reduceToNat, Int.toNat_natCast]) (by first | decide | omega) (by first | decide | omega) ?_) | ((with_reducible change wpList _ _ _ (Oper.mk _ (Op.sliceToArrayPointer _ _) _ _ _ _ :: _) _ _); refine KL_arr (by rfl) _ _ rfl _ _ _ rfl (by first | decide | omega) ?_))
  obtain ⟨bk, rfl⟩ := hK.n0
  go_loopw [5, 6] (fun ov n wr => ∃ j : Nat, j ≤ es.length ∧ n = .int .i64 j ∧ ∃ Mo, Sl 28 80 (delE (es.take j) k.n).length (rows rE (delE (es.take j) k.n)) ov Mo ∧ Kn Nil w0 wr (Mo ++ [(bk, 23, U k.b)])) (fun _ n _ => es.length - (intOf n).toNat)
  case atStart => exact ⟨0, Nat.zero_le _, rfl, [], .nil rfl rfl, hK⟩
  case round =>
    clear hK
    obtain ⟨j, hj, rfl, Mo, hSo, hK⟩ := hrel
    by_cases hlt : j < es.length
    · obtain ⟨g, o, rfl, hOld⟩ := HA.out (by omega)
      have hlt' : (j : Int) < es.length := by omega
      have hdl := delE_len_le (es.take j) k.n
      have htl : (es.take j).length ≤ j := List.length_take_le _ _
      obtain ⟨e, he⟩ : ∃ e, e = es[j] := ⟨_, rfl⟩
      have hde := delE_next hlt k.n
      have hOe := old_el hOld hlt
      rw [← he] at hde hOe
      have hOk := old_key hOe
      by_cases hb : e.n = k.n
      · haveI qe : Cmp Try.prog .neq 23 (U e.ky.b) (U k.b) false := ⟨fun w => by rw [neq_key, Ky.beq, show decide (e.ky.n = k.n) = true from decide_eq_true hb]; rfl⟩
        rw [if_pos hb] at hde
        have HD := Lib.hid hde
        clear hde hb he
        go_wp2_with ((with_reducible change wpList _ _ _ (_ :: _) _ _); first | ((with_reducible change wpList _ _ _ (Oper.mk _ (Op.load _ _) _ _ _ _ :: _) _ _); first | (refine KL_load1 hK (by rfl) _ _ rfl _ _ rfl ?_) | (refine KL_load hK (by rfl) _ _ rfl _ _ rfl ?_)) | ((with_reducible change wpList _ _ _ (Oper.mk _ (Op.store _ _ _) _ _ _ _ :: _) _ _); first | (refine KL_store1 hK (by rfl) _ _ _ rfl _ _ rfl _ (by conv => lhs; whnf) (by rfl) ?_; clear hK; intro w hK) | (refine KL_store hK (by rfl) _ _ _ rfl _ _ rfl _ rfl ?_; clear hK; intro w hK)) | ((with_reducible change wpList _ _ _ (Oper.mk _ (Op.alloc _) _ _ _ _ :: _) _ _); refine KL_alloc hK (by rfl) _ rfl ?_; clear hK; intro b w hK) | ((with_reducible change wpList _ _ _ (Oper.mk _ (Op.box _ _) _ _ _ _ :: _) _ _); refine KL_box hK (by rfl) _ _ rfl _ (by conv => lhs; whnf) ?_; clear hK; intro b w hK) | ((with_reducible change wpList _ _ _ (Oper.mk _ (Op.build _ _) _ _ _ _ :: _) _ _); first | (refine KL_build0 (by rfl) _ rfl ?_) | (refine KL_build1 (by rfl) _ _ _ rfl _ (by conv => lhs; whnf) ?_) | (refine KL_build2 (by rfl) _ _ _ _ _ rfl _ (by conv => lhs; whnf) _ (by conv => lhs; whnf) ?_) | (refine KL_build3 (by rfl) _ _ _ _ _ _ _ rfl _ (by conv => lhs; whnf) _ (by conv => lhs; whnf) _ (by conv => lhs; whnf) ?_) | (refine KL_build4 (by rfl) _ _ _ _ _ _ _ _ _ rfl _ (by conv => lhs; whnf) _ (by conv => lhs; whnf) _ (by conv => lhs; whnf) _ (by conv => lhs; whnf) ?_) | (refine KL_build5 (by rfl) _ _ _ _ _ _ _ _ _ _ _ rfl _ (by conv => lhs; whnf) _ (by conv => lhs; whnf) _ (by conv => lhs; whnf) _ (by conv => lhs; whnf) _ (by conv => lhs; whnf) ?_)) | ((with_reducible change wpList _ _ _ (Oper.mk _ (Op.binOp _ _ _ _ _) _ _ _ _ :: _) _ _); refine KL_cmp (by rfl) _ _ _ _ _ rfl _ _ rfl rfl ?_) | ((with_reducible change wpList _ _ _ (Oper.mk _ (Op.call _) _ _ _ _ :: _) _ _); refine KL_copy hK (by rfl) _ _ _ _ rfl _ _ _ _ _ _ _ _ rfl rfl _ _ (by first | exact Nat.min_eq_left (by first | decide | omega) | exact Nat.min_eq_right (by first | decide | omega)) (by first | exact Nat.mul_one _ | (conv => lhs; simp only [Nat.reduceMul])) ?_; clear hK; intro w hK) | ((with_reducible change wpList _ _ _ (Oper.mk _ (Op.index _ _ _) _ _ _ _ :: _) _ _); refine KL_index (by rfl) _ _ _ rfl _ rfl _ rfl _ (by conv => lhs; simp only [Int.reduceToNat, Int.toNat_natCast]) (by first | decide | omega) (by first | decide | omega) ?_) | ((with_reducible change wpList _ _ _ (Oper.mk _ (Op.sliceToArrayPointer _ _) _ _ _ _ :: _) _ _); refine KL_arr (by rfl) _ _ rfl _ _ _ rfl (by first | decide | omega) ?_))
        (refine wp_region_sub hK [(bk, 23, U k.b)] (by kernel_rfl) ?_; (try clear hK); intro w hK hS)
        (refine KS_take 0 (by kernel_rfl) (by decide +kernel) (by decide +kernel) (by exact fun _ _ _ h => h) (by rfl) (by intro w hSw; go_simp; with_reducible rfl) hS ?_; (try simp only [Act.put, List.setIfInBounds_toArray, List.set_cons_zero, List.set_cons_succ])); (refine KS_take 1 (by kernel_rfl) (by decide +kernel) (by decide +kernel) (by exact fun _ _ _ h => h) (by rfl) (by intro w hSw; go_simp; with_reducible rfl) hS ?_; (try simp only [Act.put, List.setIfInBounds_toArray, List.set_cons_zero, List.set_cons_succ])); (refine KS_take 2 (by kernel_rfl) (by decide +kernel) (by decide +kernel) (by exact fun _ _ _ h => h) (by rfl) (by intro w hSw; go_simp; with_reducible rfl) hS ?_; (try simp only [Act.put, List.setIfInBounds_toArray, List.set_cons_zero, List.set_cons_succ])); (refine KS_take 3 (by kernel_rfl) (by decide +kernel) (by decide +kernel) (by exact fun _ _ _ h => h) (by rfl) (by intro w hSw; go_simp; with_reducible rfl) hS ?_; (try simp only [Act.put, List.setIfInBounds_toArray, List.set_cons_zero, List.set_cons_succ]))
        (refine KS_take 4 (by kernel_rfl) (by decide +kernel) (by decide +kernel) (by exact fun _ _ _ h => h) (by rfl) (by exact KS_loadR _ _ rfl _ _ rfl hOk (by rw [U_length, Ky.len])) hS ?_; (try simp only [Act.put, List.setIfInBounds_toArray, List.set_cons_zero, List.set_cons_succ]))
        (refine KS_take 5 (by kernel_rfl) (by decide +kernel) (by decide +kernel) (by exact fun _ _ _ h => h) (by rfl) (by first | exact KS_load1 _ _ rfl _ _ rfl | exact KS_load _ _ rfl _ _ rfl) hS ?_; (try simp only [Act.put, List.setIfInBounds_toArray, List.set_cons_zero, List.set_cons_succ]))
        (refine KS_take 6 (by kernel_rfl) (by decide +kernel) (by decide +kernel) (by exact fun _ _ _ h => h) (by rfl) (by exact KS_cmp _ _ _ _ _ rfl _ _ rfl rfl) hS ?_; (try simp only [Act.put, List.setIfInBounds_toArray, List.set_cons_zero, List.set_cons_succ]))
        (refine wpAnyH_done (by kernel_rfl) ?_ _)
        go_wp2_with ((with_reducible change wpList _ _ _ (_ :: _) _ _); first | ((with_reducible change wpList _ _ _ (Oper.mk _ (Op.load _ _) _ _ _ _ :: _) _ _); first | (refine KL_load1 hK (by rfl) _ _ rfl _ _ rfl ?_) | (refine KL_load hK (by rfl) _ _ rfl _ _ rfl ?_)) | ((with_reducible change wpList _ _ _ (Oper.mk _ (Op.store _ _ _) _ _ _ _ :: _) _ _); first | (refine KL_store1 hK (by rfl) _ _ _ rfl _ _ rfl _ (by conv => lhs; whnf) (by rfl) ?_; clear hK; intro w hK) | (refine KL_store hK (by rfl) _ _ _ rfl _ _ rfl _ rfl ?_; clear hK; intro w hK)) | ((with_reducible change wpList _ _ _ (Oper.mk _ (Op.alloc _) _ _ _ _ :: _) _ _); refine KL_alloc hK (by rfl) _ rfl ?_; clear hK; intro b w hK) | ((with_reducible change wpList _ _ _ (Oper.mk _ (Op.box _ _) _ _ _ _ :: _) _ _); refine KL_box hK (by rfl) _ _ rfl _ (by conv => lhs; whnf) ?_; clear hK; intro b w hK) | ((with_reducible change wpList _ _ _ (Oper.mk _ (Op.build _ _) _ _ _ _ :: _) _ _); first | (refine KL_build0 (by rfl) _ rfl ?_) | (refine KL_build1 (by rfl) _ _ _ rfl _ (by conv => lhs; whnf) ?_) | (refine KL_build2 (by rfl) _ _ _ _ _ rfl _ (by conv => lhs; whnf) _ (by conv => lhs; whnf) ?_) | (refine KL_build3 (by rfl) _ _ _ _ _ _ _ rfl _ (by conv => lhs; whnf) _ (by conv => lhs; whnf) _ (by conv => lhs; whnf) ?_) | (refine KL_build4 (by rfl) _ _ _ _ _ _ _ _ _ rfl _ (by conv => lhs; whnf) _ (by conv => lhs; whnf) _ (by conv => lhs; whnf) _ (by conv => lhs; whnf) ?_) | (refine KL_build5 (by rfl) _ _ _ _ _ _ _ _ _ _ _ rfl _ (by conv => lhs; whnf) _ (by conv => lhs; whnf) _ (by conv => lhs; whnf) _ (by conv => lhs; whnf) _ (by conv => lhs; whnf) ?_)) | ((with_reducible change wpList _ _ _ (Oper.mk _ (Op.binOp _ _ _ _ _) _ _ _ _ :: _) _ _); refine KL_cmp (by rfl) _ _ _ _ _ rfl _ _ rfl rfl ?_) | ((with_reducible change wpList _ _ _ (Oper.mk _ (Op.call _) _ _ _ _ :: _) _ _); refine KL_copy hK (by rfl) _ _ _ _ rfl _ _ _ _ _ _ _ _ rfl rfl _ _ (by first | exact Nat.min_eq_left (by first | decide | omega) | exact Nat.min_eq_right (by first | decide | omega)) (by first | exact Nat.mul_one _ | (conv => lhs; simp only [Nat.reduceMul])) ?_; clear hK; intro w hK) | ((with_reducible change wpList _ _ _ (Oper.mk _ (Op.index _ _ _) _ _ _ _ :: _) _ _); refine KL_index (by rfl) _ _ _ rfl _ rfl _ rfl _ (by conv => lhs; simp only [Int.reduceToNat, Int.toNat_natCast]) (by first | decide | omega) (by first | decide | omega) ?_) | ((with_reducible change wpList _ _ _ (Oper.mk _ (Op.sliceToArrayPointer _ _) _ _ _ _ :: _) _ _); refine KL_arr (by rfl) _ _ rfl _ _ _ rfl (by first | decide | omega) ?_))
        go_roundw
        case rel => exact ⟨j + 1, hlt, rfl, Mo, by rw [HD.out]; exact hSo, hK⟩
        case measure => simp [intOf]; omega
      · haveI qe : Cmp Try.prog .neq 23 (U e.ky.b) (U k.b) true := ⟨fun w => by rw [neq_key, Ky.beq, show decide (e.ky.n = k.n) = false from decide_eq_false hb]; rfl⟩
        rw [if_neg hb] at hde
        have HD := Lib.hid hde
        clear hde hb he
        go_wp2_with ((with_reducible change wpList _ _ _ (_ :: _) _ _); first | ((with_reducible change wpList _ _ _ (Oper.mk _ (Op.load _ _) _ _ _ _ :: _) _ _); first | (refine KL_load1 hK (by rfl) _ _ rfl _ _ rfl ?_) | (refine KL_load hK (by rfl) _ _ rfl _ _ rfl ?_)) | ((with_reducible change wpList _ _ _ (Oper.mk _ (Op.store _ _ _) _ _ _ _ :: _) _ _); first | (refine KL_store1 hK (by rfl) _ _ _ rfl _ _ rfl _ (by conv => lhs; whnf) (by rfl) ?_; clear hK; intro w hK) | (refine KL_store hK (by rfl) _ _ _ rfl _ _ rfl _ rfl ?_; clear hK; intro w hK)) | ((with_reducible change wpList _ _ _ (Oper.mk _ (Op.alloc _) _ _ _ _ :: _) _ _); refine KL_alloc hK (by rfl) _ rfl ?_; clear hK; intro b w hK) | ((with_reducible change wpList _ _ _ (Oper.mk _ (Op.box _ _) _ _ _ _ :: _) _ _); refine KL_box hK (by rfl) _ _ rfl _ (by conv => lhs; whnf) ?_; clear hK; intro b w hK) | ((with_reducible change wpList _ _ _ (Oper.mk _ (Op.build _ _) _ _ _ _ :: _) _ _); first | (refine KL_build0 (by rfl) _ rfl ?_) | (refine KL_build1 (by rfl) _ _ _ rfl _ (by conv => lhs; whnf) ?_) | (refine KL_build2 (by rfl) _ _ _ _ _ rfl _ (by conv => lhs; whnf) _ (by conv => lhs; whnf) ?_) | (refine KL_build3 (by rfl) _ _ _ _ _ _ _ rfl _ (by conv => lhs; whnf) _ (by conv => lhs; whnf) _ (by conv => lhs; whnf) ?_) | (refine KL_build4 (by rfl) _ _ _ _ _ _ _ _ _ rfl _ (by conv => lhs; whnf) _ (by conv => lhs; whnf) _ (by conv => lhs; whnf) _ (by conv => lhs; whnf) ?_) | (refine KL_build5 (by rfl) _ _ _ _ _ _ _ _ _ _ _ rfl _ (by conv => lhs; whnf) _ (by conv => lhs; whnf) _ (by conv => lhs; whnf) _ (by conv => lhs; whnf) _ (by conv => lhs; whnf) ?_)) | ((with_reducible change wpList _ _ _ (Oper.mk _ (Op.binOp _ _ _ _ _) _ _ _ _ :: _) _ _); refine KL_cmp (by rfl) _ _ _ _ _ rfl _ _ rfl rfl ?_) | ((with_reducible change wpList _ _ _ (Oper.mk _ (Op.call _) _ _ _ _ :: _) _ _); refine KL_copy hK (by rfl) _ _ _ _ rfl _ _ _ _ _ _ _ _ rfl rfl _ _ (by first | exact Nat.min_eq_left (by first | decide | omega) | exact Nat.min_eq_right (by first | decide | omega)) (by first | exact Nat.mul_one _ | (conv => lhs; simp only [Nat.reduceMul])) ?_; clear hK; intro w hK) | ((with_reducible change wpList _ _ _ (Oper.mk _ (Op.index _ _ _) _ _ _ _ :: _) _ _); refine KL_index (by rfl) _ _ _ rfl _ rfl _ rfl _ (by conv => lhs; simp only [Int.reduceToNat, Int.toNat_natCast]) (by first | decide | omega) (by first | decide | omega) ?_) | ((with_reducible change wpList _ _ _ (Oper.mk _ (Op.sliceToArrayPointer _ _) _ _ _ _ :: _) _ _); refine KL_arr (by rfl) _ _ rfl _ _ _ rfl (by first | decide | omega) ?_))
        (refine wp_region_sub hK [(bk, 23, U k.b)] (by kernel_rfl) ?_; (try clear hK); intro w hK hS)
        (refine KS_take 0 (by kernel_rfl) (by decide +kernel) (by decide +kernel) (by exact fun _ _ _ h => h) (by rfl) (by intro w hSw; go_simp; with_reducible rfl) hS ?_; (try simp only [Act.put, List.setIfInBounds_toArray, List.set_cons_zero, List.set_cons_succ])); (refine KS_take 1 (by kernel_rfl) (by decide +kernel) (by decide +kernel) (by exact fun _ _ _ h => h) (by rfl) (by intro w hSw; go_simp; with_reducible rfl) hS ?_; (try simp only [Act.put, List.setIfInBounds_toArray, List.set_cons_zero, List.set_cons_succ])); (refine KS_take 2 (by kernel_rfl) (by decide +kernel) (by decide +kernel) (by exact fun _ _ _ h => h) (by rfl) (by intro w hSw; go_simp; with_reducible rfl) hS ?_; (try simp only [Act.put, List.setIfInBounds_toArray, List.set_cons_zero, List.set_cons_succ])); (refine KS_take 3 (by kernel_rfl) (by decide +kernel) (by decide +kernel) (by exact fun _ _ _ h => h) (by rfl) (by intro w hSw; go_simp; with_reducible rfl) hS ?_; (try simp only [Act.put, List.setIfInBounds_toArray, List.set_cons_zero, List.set_cons_succ]))
        (refine KS_take 4 (by kernel_rfl) (by decide +kernel) (by decide +kernel) (by exact fun _ _ _ h => h) (by rfl) (by exact KS_loadR _ _ rfl _ _ rfl hOk (by rw [U_length, Ky.len])) hS ?_; (try simp only [Act.put, List.setIfInBounds_toArray, List.set_cons_zero, List.set_cons_succ]))
        (refine KS_take 5 (by kernel_rfl) (by decide +kernel) (by decide +kernel) (by exact fun _ _ _ h => h) (by rfl) (by first | exact KS_load1 _ _ rfl _ _ rfl | exact KS_load _ _ rfl _ _ rfl) hS ?_; (try simp only [Act.put, List.setIfInBounds_toArray, List.set_cons_zero, List.set_cons_succ]))
        (refine KS_take 6 (by kernel_rfl) (by decide +kernel) (by decide +kernel) (by exact fun _ _ _ h => h) (by rfl) (by exact KS_cmp _ _ _ _ _ rfl _ _ rfl rfl) hS ?_; (try simp only [Act.put, List.setIfInBounds_toArray, List.set_cons_zero, List.set_cons_succ]))
        (refine wpAnyH_done (by kernel_rfl) ?_ _)
        go_wp2_with (first | ((with_reducible change wpList _ _ _ (Oper.mk _ (Op.load _ _) _ _ _ _ :: _) _ _); refine KL_loadR (by rfl) _ _ rfl _ _ rfl (hOe.see hK) (by rw [U_length, Ent.len]) ?_) | (((with_reducible change wpList _ _ _ (Oper.mk _ (Op.buildSlice _ _ _) _ _ _ _ :: _) _ _); first | (refine KL_bs1 hK (by rfl) _ _ _ rfl _ (by conv => lhs; whnf) ?_; clear hK; intro b w hK) | (refine KL_bs2 hK (by rfl) _ _ _ _ _ rfl _ _ (by conv => lhs; whnf) (by conv => lhs; whnf) ?_; clear hK; intro b w hK))) | ((with_reducible change wpList _ _ _ (Oper.mk _ (Op.call _) _ _ _ _ :: _) _ _); refine KL_appS (M := Mo) hK.up1 hSo (by rfl) _ _ _ _ rfl rfl rfl (one_src b e hK) (by omega) (by decide) ?_; clear hK; intro v' M' w hS' hK))
        go_roundw
        case rel =>
          rw [rows_snoc] at hS'
          exact ⟨j + 1, hlt, rfl, M', by rw [HD.out, List.length_append]; exact hS', hK.drop1⟩
        case measure => simp [intOf]; omega
    · obtain rfl : j = es.length := by omega
      rw [List.take_length] at hSo
      go_wp2_with fail
      go_ret
      exact ⟨_, Mo, rfl, hSo, hK.head⟩
theorem Rd.later {w0 w : World} {v : Value} {es : List Ent} {L : Mem} (hK : Kn Nil w0 w L) (h : Rd w0 v es) : Rd w v es := by
  cases h with
  | nil a c => exact .nil a c
  | row g o c es h0 hg hr hm => exact .row g o c es h0 (Nat.lt_of_lt_of_le hg hK.only.size) ((Rd.old hg hr).see hK) hm
set_option maxRecDepth 20000 in
set_option maxHeartbeats 1600000 in
theorem lset_c {w : World} {v : Value} {es : List Ent} (e : Ent) (hr : Rd w v es) (hn : es.length ≤ 800000) : Calls Try.prog 23 #[v, .agg (U e.b).toArray] w (RowRet w (setR es e)) := by
  suffices key : ∀ w0, Kn Nil w0 w [] → Rd w0 v es → Calls Try.prog 23 #[v, .agg (U e.b).toArray] w (RowRet w0 (setR es e)) from key w (Kn.start _ _) hr
  clear hr
  intro w0 hK hr
  have hdl := delE_len_le es e.n
  obtain ⟨rs, hrs⟩ : ∃ rs, rs = delE es e.n := ⟨_, rfl⟩
  have hD : ∀ (w : World) (L : Mem), Kn Nil w0 w L → Calls Try.prog 25 #[v, .agg (U e.ky.b).toArray] w fun r w' => ∃ v' M', r = .returned v' ∧ Sl 28 80 rs.length (rows rE rs) v' M' ∧ Kn Nil w0 w' (M' ++ L) := fun w L h => by
    refine (ldel_c e.ky (Rd.later h hr) (by omega)).mono ?_
    rintro r w' ⟨v', M', rfl, hS, h'⟩
    rw [show e.ky.n = e.n from rfl, ← hrs] at hS
    exact ⟨v', M', rfl, hS, h.more h'⟩
  have HD := Lib.hid hD
  rw [← hrs] at hdl
  have HS := Lib.hid (show setR es e = rs ++ [e] by rw [hrs]; rfl)
  clear hD hr hrs
  go_enter Try.func23, Try.ntmps23
  go_wp2_with ((with_reducible change wpList _ _ _ (_ :: _) _ _); first | ((with_reducible change wpList _ _ _ (Oper.mk _ (Op.load _ _) _ _ _ _ :: _) _ _); first | (refine KL_load1 hK (by rfl) _ _ rfl _ _ rfl ?_) | (refine KL_load hK (by rfl) _ _ rfl _ _ rfl ?_)) | ((with_reducible change wpList _ _ _ (Oper.mk _ (Op.store _ _ _) _ _ _ _ :: _) _ _); first | (refine KL_store1 hK (by rfl) _ _ _ rfl _ _ rfl _ (by conv => lhs; whnf) (by rfl) ?_; clear hK; intro w hK) | (refine KL_store hK (by rfl) _ _ _ rfl _ _ rfl _ rfl ?_; clear hK; intro w hK)) | ((with_reducible change wpList _ _ _ (Oper.mk _ (Op.alloc _) _ _ _ _ :: _) _ _); refine KL_alloc hK (by rfl) _ rfl ?_; clear hK; intro b w hK) | ((with_reducible change wpList _ _ _ (Oper.mk _ (Op.box _ _) _ _ _ _ :: _) _ _); refine KL_box hK (by rfl) _ _ rfl _ (by conv => lhs; whnf) ?_; clear hK; intro b w hK) | ((with_reducible change wpList _ _ _ (Oper.mk _ (Op.build _ _) _ _ _ _ :: _) _ _); first | (refine KL_build0 (by rfl) _ rfl ?_) | (refine KL_build1 (by rfl) _ _ _ rfl _ (by conv => lhs; whnf) ?_) | (refine KL_build2 (by rfl) _ _ _ _ _ rfl _ (by conv => lhs; whnf) _ (by conv => lhs; whnf) ?_) | (refine KL_build3 (by rfl) _ _ _ _ _ _ _ rfl _ (by conv => lhs; whnf) _ (by conv => lhs; whnf) _ (by conv => lhs; whnf) ?_) | (refine KL_build4 (by rfl) _ _ _ _ _ _ _ _ _ rfl _ (by conv => lhs; whnf) _ (by conv => lhs; whnf) _ (by conv => lhs; whnf) _ (by conv => lhs; whnf) ?_) | (refine KL_build5 (by rfl) _ _ _ _ _ _ _ _ _ _ _ rfl _ (by conv => lhs; whnf) _ (by conv => lhs; whnf) _ (by conv => lhs; whnf) _ (by conv => lhs; whnf) _ (by conv => lhs; whnf) ?_)) | ((with_reducible change wpList _ _ _ (Oper.mk _ (Op.binOp _ _ _ _ _) _ _ _ _ :: _) _ _); refine KL_cmp (by rfl) _ _ _ _ _ rfl _ _ rfl rfl ?_) | ((with_reducible change wpList _ _ _ (Oper.mk _ (Op.call _) _ _ _ _ :: _) _ _); refine KL_copy hK (by rfl) _ _ _ _ rfl _ _ _ _ _ _ _ _ rfl rfl _ _ (by first | exact Nat.min_eq_left (by first | decide | omega) | exact Nat.min_eq_right (by first | decide | omega)) (by first | exact Nat.mul_one _ | (conv => lhs; simp only [Nat.reduceMul])) ?_; clear hK; intro w hK) | ((with_reducible change wpList _ _ _ (Oper.mk _ (Op.index _ _ _) _ _ _ _ :: _) _ _); refine KL_index (by rfl) _ _ _ rfl _ rfl _ rfl _ (by conv => lhs; simp only [Int.reduceToNat, Int.toNat_natCast]) (by first | decide | omega) (by first | decide | omega) ?_) | ((with_reducible change wpList _ _ _ (Oper.mk _ (Op.sliceToArrayPointer _ _) _ _ _ _ :: _) _ _); refine KL_arr (by rfl) _ _ rfl _ _ _ rfl (by first | decide | omega) ?_))
  obtain ⟨be, rfl⟩ := hK.n0
  apply wp_meet5 hK
  case h =>
    (refine wp_region_sub hK [(be, 28, U e.b)] (by kernel_rfl) ?_; (try clear hK); intro w hK hS)
    (refine KS_take 0 (by kernel_rfl) (by decide +kernel) (by decide +kernel) (by exact fun _ _ _ h => h) (by rfl) (by intro w hSw; go_simp; with_reducible rfl) hS ?_; (try simp only [Act.put, List.setIfInBounds_toArray, List.set_cons_zero, List.set_cons_succ])); (refine KS_take 1 (by kernel_rfl) (by decide +kernel) (by decide +kernel) (by exact fun _ _ _ h => h) (by rfl) (by intro w hSw; go_simp; with_reducible rfl) hS ?_; (try simp only [Act.put, List.setIfInBounds_toArray, List.set_cons_zero, List.set_cons_succ]))
    (refine KS_take 2 (by kernel_rfl) (by decide +kernel) (by decide +kernel) (by exact fun _ _ _ h => h) (by rfl) (by first | exact KS_load1 _ _ rfl _ _ rfl | exact KS_load _ _ rfl _ _ rfl) hS ?_; (try simp only [Act.put, List.setIfInBounds_toArray, List.set_cons_zero, List.set_cons_succ]))
    (refine KS_take 4 (by kernel_rfl) (by decide +kernel) (by decide +kernel) (by exact fun _ _ _ h => h) (by rfl) (by first | exact KS_load1 _ _ rfl _ _ rfl | exact KS_load _ _ rfl _ _ rfl) hS ?_; (try simp only [Act.put, List.setIfInBounds_toArray, List.set_cons_zero, List.set_cons_succ]))
    refine KS_two 3 5 (by decide +kernel) (by rfl) (by rfl) (fun K hk => ?_) (fun K hk => ?_)
    · go_simp
      (go_at_call 25; refine (HD.out _ _ hK).mono ?_; rintro r w1 ⟨v1, M1, rfl, hS1, hK'⟩; (try clear hK); have hK := hK'; clear hK'; dsimp only)
      (refine hk.out _ _ hK.subs (fun hS => ?_); clear hk K; (try simp only [Act.put, List.setIfInBounds_toArray, List.set_cons_zero, List.set_cons_succ]))
      (refine KS_one 5 (by decide +kernel) (by rfl) (fun K hk => ?_); (refine KO_buildSlice hK _ _ _ rfl [(0, .agg (U e.b).toArray)] rfl ?_; (try clear hK); intro bx w hK); (refine hk.out _ _ hK.subs (fun hS => ?_); clear hk K; (try simp only [Act.put, List.setIfInBounds_toArray, List.set_cons_zero, List.set_cons_succ])))
      (refine KS_one 6 (by decide +kernel) (by rfl) (fun K hk => ?_); ((refine KO_appS (M := M1) hK.up1 hS1 _ _ _ _ rfl rfl rfl (one_src bx e hK) (by omega) (by decide) ?_; (try clear hK); intro v2 M2 w hS2 hK)); (refine hk.out _ _ hK.subs (fun hS => ?_); clear hk K; (try simp only [Act.put, List.setIfInBounds_toArray, List.set_cons_zero, List.set_cons_succ])))
      (refine KS_take 7 (by kernel_rfl) (by decide +kernel) (by decide +kernel) (by exact fun _ _ _ h => h) (by rfl) (by intro w hSw; go_simp; with_reducible rfl) hS ?_; (try simp only [Act.put, List.setIfInBounds_toArray, List.set_cons_zero, List.set_cons_succ]))
      (refine wpAnyH_done (by kernel_rfl) ?_ _)
      exact ⟨bx, v1, v2, M2, rfl, hS2, hK⟩
    · refine KO_buildSlice hK _ _ _ rfl [(0, .agg (U e.b).toArray)] rfl ?_; (try clear hK); intro bx w hK
      (refine hk.out _ _ hK.subs (fun hS => ?_); clear hk K; (try simp only [Act.put, List.setIfInBounds_toArray, List.set_cons_zero, List.set_cons_succ]))
      (refine KS_one 3 (by decide +kernel) (by rfl) (fun K hk => ?_); (go_simp; (go_at_call 25; refine (HD.out _ _ hK).mono ?_; rintro r w1 ⟨v1, M1, rfl, hS1, hK'⟩; (try clear hK); have hK := hK'; clear hK'; dsimp only)); (refine hk.out _ _ hK.subs (fun hS => ?_); clear hk K; (try simp only [Act.put, List.setIfInBounds_toArray, List.set_cons_zero, List.set_cons_succ])))
      (refine KS_one 6 (by decide +kernel) (by rfl) (fun K hk => ?_); ((refine KO_appS (M := M1) hK hS1 _ _ _ _ rfl rfl rfl (one_src bx e hK) (by omega) (by decide) ?_; (try clear hK); intro v2 M2 w hS2 hK)); (refine hk.out _ _ hK.subs (fun hS => ?_); clear hk K; (try simp only [Act.put, List.setIfInBounds_toArray, List.set_cons_zero, List.set_cons_succ])))
      (refine KS_take 7 (by kernel_rfl) (by decide +kernel) (by decide +kernel) (by exact fun _ _ _ h => h) (by rfl) (by intro w hSw; go_simp; with_reducible rfl) hS ?_; (try simp only [Act.put, List.setIfInBounds_toArray, List.set_cons_zero, List.set_cons_succ]))
      (refine wpAnyH_done (by kernel_rfl) ?_ _)
      exact ⟨bx, v1, v2, M2, rfl, hS2, hK⟩
  case k =>
    clear hK
    intro bx v1 v2 M2 w hS2 hK
    go_wp2_with fail
    go_ret
    rw [rows_snoc] at hS2
    exact ⟨v2, M2, rfl, by rw [HS.out, List.length_append]; exact hS2, hK.head⟩
/-! ### planted -/
def insAll (l : List Ent) : List Ent := l.foldl insE []
def setAll (l : List Ent) : List Ent := l.foldl setR []
theorem insAll_next {es : List Ent} {j : Nat} (h : j < es.length) : insAll (es.take (j + 1)) = insE (insAll (es.take j)) es[j] := by
  rw [List.take_succ_eq_append_getElem h, insAll, List.foldl_append]; rfl
theorem setAll_next {es : List Ent} {j : Nat} (h : j < es.length) : setAll (es.take (j + 1)) = setR (setAll (es.take j)) es[j] := by
  rw [List.take_succ_eq_append_getElem h, setAll, List.foldl_append]; rfl
theorem insE_le (l : List Ent) (e : Ent) : (insE l e).length ≤ l.length + 1 := by
  unfold insE
  induction l with
  | nil => simp
  | cons x l ih =>
    rw [List.length_append, List.length_cons] at ih ⊢
    simp only [List.filter_cons]
    split <;> split <;> rename_i h1 h2 <;> simp at h1 h2 <;> simp at ih ⊢ <;> omega
theorem setR_le (l : List Ent) (e : Ent) : (setR l e).length ≤ l.length + 1 := by
  have := delE_len_le l e.n
  unfold setR
  rw [List.length_append, List.length_singleton]; omega
theorem insAll_le (es : List Ent) : ∀ j, j ≤ es.length → (insAll (es.take j)).length ≤ j ∧ (setAll (es.take j)).length ≤ j
  | 0, _ => by simp [insAll, setAll]
  | j + 1, h => by
    have ih := insAll_le es j (by omega)
    rw [insAll_next (by omega), setAll_next (by omega)]
    have := insE_le (insAll (es.take j)) es[j]
    have := setR_le (setAll (es.take j)) es[j]
    omega
def PlRet (w0 : World) (l : List Ent) : Ending → World → Prop := fun r w' => ∃ b v Mt Mo, r = .returned (.tuple #[.pointer (some ⟨b, 0, none⟩), v]) ∧ Tree b (insAll l) Mt ∧ Sl 28 80 (setAll l).length (rows rE (setAll l)) v Mo ∧ Kn Nil w0 w' (Mt ++ Mo)
set_option maxRecDepth 20000 in
set_option maxHeartbeats 1600000 in
theorem planted_c {w : World} {v : Value} {es : List Ent} (hr : Rd w v es) : Calls Try.prog 16 #[v] w (PlRet w (es.take 200)) := by
  obtain ⟨a, c, rfl, hm, ha⟩ := hr.open
  suffices key : ∀ w0, Kn Nil w0 w [] → (0 < es.length → ∃ g o, a = some ⟨g, o, none⟩ ∧ Old Nil w0 g o (rows rE es)) → Calls Try.prog 16 #[.slice a es.length c] w (PlRet w0 (es.take 200)) from key w (Kn.start _ _) ha
  clear ha hr
  intro w0 hK ha
  have HA := Lib.hid ha
  clear ha
  unfold maxLen at hm
  go_enter Try.func16, Try.ntmps16
  go_wp2_with (first | ((with_reducible change wpList _ _ _ (_ :: _) _ _); first | ((with_reducible change wpList _ _ _ (Oper.mk _ (Op.load _ _) _ _ _ _ :: _) _ _); first | (refine KL_load1 hK (by rfl) _ _ rfl _ _ rfl ?_) | (refine KL_load hK (by rfl) _ _ rfl _ _ rfl ?_)) | ((with_reducible change wpList _ _ _ (Oper.mk _ (Op.store _ _ _) _ _ _ _ :: _) _ _); first | (refine KL_store1 hK (by rfl) _ _ _ rfl _ _ rfl _ (by conv => lhs; whnf) (by rfl) ?_; clear hK; intro w hK) | (refine KL_store hK (by rfl) _ _ _ rfl _ _ rfl _ rfl ?_; clear hK; intro w hK)) | ((with_reducible change wpList _ _ _ (Oper.mk _ (Op.alloc _) _ _ _ _ :: _) _ _); refine KL_alloc hK (by rfl) _ rfl ?_; clear hK; intro b w hK) | ((with_reducible change wpList _ _ _ (Oper.mk _ (Op.box _ _) _ _ _ _ :: _) _ _); refine KL_box hK (by rfl) _ _ rfl _ (by conv => lhs; whnf) ?_; clear hK; intro b w hK) | ((with_reducible change wpList _ _ _ (Oper.mk _ (Op.build _ _) _ _ _ _ :: _) _ _); first | (refine KL_build0 (by rfl) _ rfl ?_) | (refine KL_build1 (by rfl) _ _ _ rfl _ (by conv => lhs; whnf) ?_) | (refine KL_build2 (by rfl) _ _ _ _ _ rfl _ (by conv => lhs; whnf) _ (by conv => lhs; whnf) ?_) | (refine KL_build3 (by rfl) _ _ _ _ _ _ _ rfl _ (by conv => lhs; whnf) _ (by conv => lhs; whnf) _ (by conv => lhs; whnf) ?_) | (refine KL_build4 (by rfl) _ _ _ _ _ _ _ _ _ rfl _ (by conv => lhs; whnf) _ (by conv => lhs; whnf) _ (by conv => lhs; whnf) _ (by conv => lhs; whnf) ?_) | (refine KL_build5 (by rfl) _ _ _ _ _ _ _ _ _ _ _ rfl _ (by conv => lhs; whnf) _ (by conv => lhs; whnf) _ (by conv => lhs; whnf) _ (by conv => lhs; whnf) _ (by conv => lhs; whnf) ?_)) | ((with_reducible change wpList _ _ _ (Oper.mk _ (Op.binOp _ _ _ _ _) _ _ _ _ :: _) _ _); refine KL_cmp (by rfl) _ _ _ _ _ rfl _ _ rfl rfl ?_) | ((with_reducible change wpList _ _ _ (Oper.mk _ (Op.call _) _ _ _ _ :: _) _ _); refine KL_copy hK (by rfl) _ _ _ _ rfl _ _ _ _ _ _ _ _ rfl rfl _ _ (by first | exact Nat.min_eq_left (by first | decide | omega) | exact Nat.min_eq_right (by first | decide | omega)) (by first | exact Nat.mul_one _ | (conv => lhs; simp only [Nat.reduceMul])) ?_; clear hK; intro w hK) | ((with_reducible change wpList _ _ _ (Oper.mk _ (Op.index _ _ _) _ _ _ _ :: _) _ _); refine KL_index (by rfl) _ _ _ rfl _ rfl _ rfl _ (by conv => lhs; simp only [Int.reduceToNat, Int.toNat_natCast]) (by first | decide | omega) (by first | decide | omega) ?_) | ((with_reducible change wpList _ _ _ (Oper.mk _ (Op.sliceToArrayPointer _ _) _ _ _ _ :: _) _ _); refine KL_arr (by rfl) _ _ rfl _ _ _ rfl (by first | decide | omega) ?_)) | (go_at_call 28; refine (New_t hK).mono ?_; rintro r w1 ⟨b, Mt, rfl, hTr, hK'⟩; clear hK; have hK := hK'; clear hK'))
  go_loopw [5, 6] (fun ov n wr => ∃ j : Nat, j ≤ es.length ∧ j ≤ 200 ∧ n = .int .i64 j ∧ ∃ Mt Mo, Tree b (insAll (es.take j)) Mt ∧ Sl 28 80 (setAll (es.take j)).length (rows rE (setAll (es.take j))) ov Mo ∧ Kn Nil w0 wr (Mt ++ Mo)) (fun _ n _ => es.length - (intOf n).toNat)
  case atStart => exact ⟨0, Nat.zero_le _, Nat.zero_le _, rfl, Mt, [], hTr, .nil rfl rfl, hK⟩
  case round =>
    clear hK hTr Mt
    obtain ⟨j, hj, hj2, rfl, Mt, Mo, hTr, hSo, hK⟩ := hrel
    have hle := insAll_le es j hj
    by_cases hlt : j < es.length
    · by_cases h200 : j < 200
      · obtain ⟨g, o, rfl, hOld⟩ := HA.out (by omega)
        have hlt' : (j : Int) < es.length := by omega
        have h200' : (j : Int) < 200 := by omega
        obtain ⟨e, he⟩ : ∃ e, e = es[j] := ⟨_, rfl⟩
        have h1 := insAll_next hlt
        have h2 := setAll_next hlt
        have hOe := old_el hOld hlt
        rw [← he] at h1 h2 hOe
        have H1 := Lib.hid h1
        have H2 := Lib.hid h2
        clear h1 h2 he
        go_wp2_with (first | ((with_reducible change wpList _ _ _ (Oper.mk _ (Op.load _ _) _ _ _ _ :: _) _ _); refine KL_loadR (by rfl) _ _ rfl _ _ rfl (hOe.see hK) (by rw [U_length, Ent.len]) ?_) | (go_at_call 22; refine (Set_t e hK hTr (by omega)).mono ?_; rintro r w1 ⟨rfl, Mt', hTr', hK'⟩; clear hK hTr; have hTr := hTr'; have hK := hK'; clear hK' hTr') | (go_at_call 23; refine (lset_c e (Sl.rd hSo (Kn.subs (L' := Mo) hK).blk) (by omega)).mono ?_; rintro r w1 ⟨v', M', rfl, hS', hK'⟩; replace hK := hK.more hK'; clear hK'))
        go_roundw
        case rel => exact ⟨j + 1, hlt, h200, rfl, Mt', M', by rw [H1.out]; exact hTr, by rw [H2.out]; exact hS', (Kn.mv hK Mo (fun f => by simp only [wt_append, wt_cons, wt_nil]; omega))⟩
        case measure => simp [intOf]; omega
      · obtain rfl : j = 200 := by omega
        go_wp2_with fail
        go_ret2
        exact ⟨b, _, Mt, Mo, rfl, hTr, hSo, hK⟩
    · obtain rfl : j = es.length := by omega
      have e1 : es.take es.length = es.take 200 := by rw [List.take_length, List.take_of_length_le hj2]
      rw [e1] at hTr hSo
      by_cases h200 : es.length < 200
      · have h200' : (es.length : Int) < 200 := by omega
        go_wp2_with fail
        go_ret2
        exact ⟨b, _, Mt, Mo, rfl, hTr, hSo, hK⟩
      · go_wp2_with fail
        go_ret2
        exact ⟨b, _, Mt, Mo, rfl, hTr, hSo, hK⟩
end Go.Proofs.Ytpkhomfblilkhaa.E
