/- slices.BinarySearchFunc at []Entry. -/
import Derived.Test.YtpkhomfblilkhaaF5
namespace Go.Proofs.Ytpkhomfblilkhaa.E
set_option linter.all false
open Go Go.RowKit

set_option maxRecDepth 20000 in
set_option maxHeartbeats 1600000 in
theorem bsE_c {F : Nat → Prop} {w0 w : World} {L : Mem} {b c : Nat} {T : Nat} {l : List Value} {es : List Ent} (hK : Kn F w0 w L) [hb : Has L b T l] (hl : l.take (es.length * 80) = rows rE es) (hf : es.length * 80 ≤ l.length) (ha : Asc Ent.n es) (hn : es.length ≤ 900000) (k : Ky) :
    Calls Try.prog 92 #[.slice (some ⟨b, 0, none⟩) es.length c, .agg (U k.b).toArray, .func (.func 93) #[] #[]] w (SrRet F w0 L (lo Ent.n es k.n) (isAt Ent.n es k.n)) := by
  obtain ⟨n, hnn⟩ : ∃ n, n = es.length := ⟨_, rfl⟩
  go_enter Try.func92, Try.ntmps92
  rw [← hnn]
  go_wp2_with ((with_reducible change wpList _ _ _ (_ :: _) _ _); first | ((with_reducible change wpList _ _ _ (Oper.mk _ (Op.load _ _) _ _ _ _ :: _) _ _); first | (refine KL_load1 hK (by rfl) _ _ rfl _ _ rfl ?_) | (refine KL_load hK (by rfl) _ _ rfl _ _ rfl ?_)) | ((with_reducible change wpList _ _ _ (Oper.mk _ (Op.store _ _ _) _ _ _ _ :: _) _ _); first | (refine KL_store1 hK (by rfl) _ _ _ rfl _ _ rfl _ (by conv => lhs; whnf) (by rfl) ?_; clear hK; intro w hK) | (refine KL_store hK (by rfl) _ _ _ rfl _ _ rfl _ rfl ?_; clear hK; intro w hK)) | ((with_reducible change wpList _ _ _ (Oper.mk _ (Op.alloc _) _ _ _ _ :: _) _ _); refine KL_alloc hK (by rfl) _ rfl ?_; clear hK; intro b w hK) | ((with_reducible change wpList _ _ _ (Oper.mk _ (Op.box _ _) _ _ _ _ :: _) _ _); refine KL_box hK (by rfl) _ _ rfl _ (by conv => lhs; whnf) ?_; clear hK; intro b w hK) | ((with_reducible change wpList _ _ _ (Oper.mk _ (Op.build _ _) _ _ _ _ :: _) _ _); first | (refine KL_build0 (by rfl) _ rfl ?_) | (refine KL_build1 (by rfl) _ _ _ rfl _ (by conv => lhs; whnf) ?_) | (refine KL_build2 (by rfl) _ _ _ _ _ rfl _ (by conv => lhs; whnf) _ (by conv => lhs; whnf) ?_) | (refine KL_build3 (by rfl) _ _ _ _ _ _ _ rfl _ (by conv => lhs; whnf) _ (by conv => lhs; whnf) _ (by conv => lhs; whnf) ?_) | (refine KL_build4 (by rfl) _ _ _ _ _ _ _ _ _ rfl _ (by conv => lhs; whnf) _ (by conv => lhs; whnf) _ (by conv => lhs; whnf) _ (by conv => lhs; whnf) ?_) | (refine KL_build5 (by rfl) _ _ _ _ _ _ _ _ _ _ _ rfl _ (by conv => lhs; whnf) _ (by conv => lhs; whnf) _ (by conv => lhs; whnf) _ (by conv => lhs; whnf) _ (by conv => lhs; whnf) ?_)) | ((with_reducible change wpList _ _ _ (Oper.mk _ (Op.binOp _ _ _ _ _) _ _ _ _ :: _) _ _); refine KL_cmp (by rfl) _ _ _ _ _ rfl _ _ rfl rfl ?_) | ((with_reducible change wpList _ _ _ (Oper.mk _ (Op.call _) _ _ _ _ :: _) _ _); refine KL_copy hK (by rfl) _ _ _ _ rfl _ _ _ _ _ _ _ _ rfl rfl _ _ (by first | exact Nat.min_eq_left (by first | decide | omega) | exact Nat.min_eq_right (by first | decide | omega)) (by first | exact Nat.mul_one _ | (conv => lhs; simp only [Nat.reduceMul])) ?_; clear hK; intro w hK) | ((with_reducible change wpList _ _ _ (Oper.mk _ (Op.index _ _ _) _ _ _ _ :: _) _ _); refine KL_index (by rfl) _ _ _ rfl _ rfl _ rfl _ (by conv => lhs; simp only [Int.reduceToNat, Int.toNat_natCast]) (by first | decide | omega) (by first | decide | omega) ?_) | ((with_reducible change wpList _ _ _ (Oper.mk _ (Op.sliceToArrayPointer _ _) _ _ _ _ :: _) _ _); refine KL_arr (by rfl) _ _ rfl _ _ _ rfl (by first | decide | omega) ?_))
  obtain ⟨bk, rfl⟩ := hK.n0
  go_loopw [9, 10] (fun i j wr => ∃ x y : Nat, x ≤ y ∧ y ≤ n ∧ i = .int .i64 x ∧ j = .int .i64 y ∧ (∀ z (h : z < es.length), z < x → es[z].n < k.n) ∧ (∀ z (h : z < es.length), y ≤ z → k.n ≤ es[z].n) ∧ Kn F w0 wr ((bk, 23, U k.b) :: L)) (fun i j _ => (intOf j - intOf i).toNat)
  case atStart => exact ⟨0, es.length, by omega, by omega, rfl, rfl, fun _ _ h => by omega, fun _ _ h => by omega, hK⟩
  case round =>
    clear hK
    obtain ⟨x, y, hxy, hyn, rfl, rfl, hlo, hhi, hK⟩ := hrel
    by_cases hlt : x < y
    · have hlt' : (x : Int) < y := by omega
      have H1 := Lib.hid hlo
      have H2 := Lib.hid hhi
      clear hlo hhi
      go_wp2_with fail
      have hd : ((x : Int) + y) / 2 = ((x + y) / 2 : Nat) := by omega
      rw [hd]
      clear hd
      obtain ⟨h, hh⟩ : ∃ h, h = (x + y) / 2 := ⟨_, rfl⟩
      rw [← hh]
      have hhn : h < es.length := by omega
      have hhn' : (h : Int) < es.length := by omega
      have HH := Lib.hid hh
      clear hh
      haveI hp : Part l (h * 80) 80 (U es[h].b) := ⟨by
        have := rows_part rE_len es hhn
        rw [← hl, List.drop_take, List.take_take, Nat.min_eq_left (by omega)] at this
        exact this, by omega⟩
      by_cases hc : es[h].n < k.n
      · have C1 : ∀ w, Calls Try.prog 93 #[.agg (U es[h].b).toArray, .agg (U k.b).toArray] w fun r w' => r = .returned (.int .i64 (-1)) ∧ Below w.heap.size w w' := fun w => by
          have := place1_c es[h] k w
          rwa [cmpN, if_pos hc] at this
        have HC := Lib.hid C1
        have hw : IntKind.i64.wrap ((h : Int) + 1) = ((h + 1 : Nat) : Int) := by rw [IntKind.wrap_i64]; omega
        clear C1
        (refine wp_region_kn hK [] (by kernel_rfl) ?_; (try clear hK); intro w hK hS)
        (refine KS_take 0 (by kernel_rfl) (by decide +kernel) (by decide +kernel) (by exact fun _ _ _ h => h) (by rfl) (by intro w hSw; go_simp; with_reducible rfl) hS ?_; (try simp only [Act.put, List.setIfInBounds_toArray, List.set_cons_zero, List.set_cons_succ])); (refine KS_take 1 (by kernel_rfl) (by decide +kernel) (by decide +kernel) (by exact fun _ _ _ h => h) (by rfl) (by intro w hSw; go_simp; with_reducible rfl) hS ?_; (try simp only [Act.put, List.setIfInBounds_toArray, List.set_cons_zero, List.set_cons_succ])); (refine KS_take 2 (by kernel_rfl) (by decide +kernel) (by decide +kernel) (by exact fun _ _ _ h => h) (by rfl) (by intro w hSw; go_simp; with_reducible rfl) hS ?_; (try simp only [Act.put, List.setIfInBounds_toArray, List.set_cons_zero, List.set_cons_succ])); (refine KS_take 3 (by kernel_rfl) (by decide +kernel) (by decide +kernel) (by exact fun _ _ _ h => h) (by rfl) (by intro w hSw; go_simp; with_reducible rfl) hS ?_; (try simp only [Act.put, List.setIfInBounds_toArray, List.set_cons_zero, List.set_cons_succ]))
        (refine KS_take 4 (by kernel_rfl) (by decide +kernel) (by decide +kernel) (by exact fun _ _ _ h => h) (by rfl) (by first | exact KS_load1 _ _ rfl _ _ rfl | exact KS_load _ _ rfl _ _ rfl) hS ?_; (try simp only [Act.put, List.setIfInBounds_toArray, List.set_cons_zero, List.set_cons_succ]))
        (refine KS_take 5 (by kernel_rfl) (by decide +kernel) (by decide +kernel) (by exact fun _ _ _ h => h) (by rfl) (by first | exact KS_load1 _ _ rfl _ _ rfl | exact KS_load _ _ rfl _ _ rfl) hS ?_; (try simp only [Act.put, List.setIfInBounds_toArray, List.set_cons_zero, List.set_cons_succ]))
        (refine KS_one 6 (by decide +kernel) (by rfl) (fun K hk => ?_); (go_simp; (go_at_call 93; (with_reducible refine (HC.out _).mono ?_); rintro e w1 ⟨rfl, hb⟩; have hK := hK.call hb; clear hb; dsimp only)); (refine hk.out _ _ hK.subs (fun hS => ?_); clear hk K; (try simp only [Act.put, List.setIfInBounds_toArray, List.set_cons_zero, List.set_cons_succ])))
        (refine KS_take 7 (by kernel_rfl) (by decide +kernel) (by decide +kernel) (by exact fun _ _ _ h => h) (by rfl) (by intro w hSw; go_simp; with_reducible rfl) hS ?_; (try simp only [Act.put, List.setIfInBounds_toArray, List.set_cons_zero, List.set_cons_succ]))
        (refine wpAnyH_done (by kernel_rfl) ?_ _)
        go_wp2_with fail
        have HHo := HH.out
        refine ⟨⟨h + 1, y, by omega, by omega, rfl, rfl, fun z hz hzx => ?_, H2.out, hK⟩, by simp [intOf]; omega⟩
        rcases Nat.lt_or_eq_of_le (show z ≤ h by omega) with h1 | rfl
        · exact Nat.lt_trans (ha.lt h1 hhn) hc
        · exact hc
      · obtain ⟨v, hv, hv0⟩ : ∃ v : Int, cmpN es[h].n k.n = v ∧ ¬ v < 0 := ⟨_, rfl, by rw [cmpN, if_neg hc]; split <;> omega⟩
        have C1 : ∀ w, Calls Try.prog 93 #[.agg (U es[h].b).toArray, .agg (U k.b).toArray] w fun r w' => r = .returned (.int .i64 v) ∧ Below w.heap.size w w' := fun w => by
          have := place1_c es[h] k w
          rwa [hv] at this
        have HC := Lib.hid C1
        clear C1 hv
        (refine wp_region_kn hK [] (by kernel_rfl) ?_; (try clear hK); intro w hK hS)
        (refine KS_take 0 (by kernel_rfl) (by decide +kernel) (by decide +kernel) (by exact fun _ _ _ h => h) (by rfl) (by intro w hSw; go_simp; with_reducible rfl) hS ?_; (try simp only [Act.put, List.setIfInBounds_toArray, List.set_cons_zero, List.set_cons_succ])); (refine KS_take 1 (by kernel_rfl) (by decide +kernel) (by decide +kernel) (by exact fun _ _ _ h => h) (by rfl) (by intro w hSw; go_simp; with_reducible rfl) hS ?_; (try simp only [Act.put, List.setIfInBounds_toArray, List.set_cons_zero, List.set_cons_succ])); (refine KS_take 2 (by kernel_rfl) (by decide +kernel) (by decide +kernel) (by exact fun _ _ _ h => h) (by rfl) (by intro w hSw; go_simp; with_reducible rfl) hS ?_; (try simp only [Act.put, List.setIfInBounds_toArray, List.set_cons_zero, List.set_cons_succ])); (refine KS_take 3 (by kernel_rfl) (by decide +kernel) (by decide +kernel) (by exact fun _ _ _ h => h) (by rfl) (by intro w hSw; go_simp; with_reducible rfl) hS ?_; (try simp only [Act.put, List.setIfInBounds_toArray, List.set_cons_zero, List.set_cons_succ]))
        (refine KS_take 4 (by kernel_rfl) (by decide +kernel) (by decide +kernel) (by exact fun _ _ _ h => h) (by rfl) (by first | exact KS_load1 _ _ rfl _ _ rfl | exact KS_load _ _ rfl _ _ rfl) hS ?_; (try simp only [Act.put, List.setIfInBounds_toArray, List.set_cons_zero, List.set_cons_succ]))
        (refine KS_take 5 (by kernel_rfl) (by decide +kernel) (by decide +kernel) (by exact fun _ _ _ h => h) (by rfl) (by first | exact KS_load1 _ _ rfl _ _ rfl | exact KS_load _ _ rfl _ _ rfl) hS ?_; (try simp only [Act.put, List.setIfInBounds_toArray, List.set_cons_zero, List.set_cons_succ]))
        (refine KS_one 6 (by decide +kernel) (by rfl) (fun K hk => ?_); (go_simp; (go_at_call 93; (with_reducible refine (HC.out _).mono ?_); rintro e w1 ⟨rfl, hb⟩; have hK := hK.call hb; clear hb; dsimp only)); (refine hk.out _ _ hK.subs (fun hS => ?_); clear hk K; (try simp only [Act.put, List.setIfInBounds_toArray, List.set_cons_zero, List.set_cons_succ])))
        (refine KS_take 7 (by kernel_rfl) (by decide +kernel) (by decide +kernel) (by exact fun _ _ _ h => h) (by rfl) (by intro w hSw; go_simp; with_reducible rfl) hS ?_; (try simp only [Act.put, List.setIfInBounds_toArray, List.set_cons_zero, List.set_cons_succ]))
        (refine wpAnyH_done (by kernel_rfl) ?_ _)
        go_wp2_with fail
        have HHo := HH.out
        refine ⟨⟨x, h, by omega, by omega, rfl, rfl, H1.out, fun z hz hzx => ?_, hK⟩, by simp [intOf]; omega⟩
        rcases Nat.lt_or_eq_of_le hzx with h1 | rfl
        · have := ha.lt h1 hz; omega
        · omega
    · obtain rfl : x = y := by omega
      have hx : x = lo Ent.n es k.n := lo_is (by omega) (fun j hj hjx => hlo j hj hjx) (fun h => hhi x h (Nat.le_refl _))
      have hlt'' : ¬ ((x : Int) < x) := by omega
      clear hlo hhi
      by_cases hxn : x < es.length
      · have hxn' : (x : Int) < es.length := by omega
        haveI hp : Part l (x * 80) 80 (U es[x].b) := ⟨by
          have := rows_part rE_len es hxn
          rw [← hl, List.drop_take, List.take_take, Nat.min_eq_left (by omega)] at this
          exact this, by omega⟩
        have hat : isAt Ent.n es k.n = (cmpN es[x].n k.n == 0) := by
          rw [isAt, ← hx, List.getElem?_eq_getElem hxn, cmpN]
          rw [Bool.eq_iff_iff, decide_eq_true_eq, beq_iff_eq]
          split
          · constructor <;> intro <;> omega
          split
          · constructor <;> intro <;> omega
          · constructor <;> intro <;> omega
        have HX := Lib.hid hx
        have HAT := Lib.hid hat
        clear hx hat
        go_wp2_with fail
        (refine wp_region_kn hK [] (by kernel_rfl) ?_; (try clear hK); intro w hK hS)
        (refine KS_take 0 (by kernel_rfl) (by decide +kernel) (by decide +kernel) (by exact fun _ _ _ h => h) (by rfl) (by intro w hSw; go_simp; with_reducible rfl) hS ?_; (try simp only [Act.put, List.setIfInBounds_toArray, List.set_cons_zero, List.set_cons_succ])); (refine KS_take 1 (by kernel_rfl) (by decide +kernel) (by decide +kernel) (by exact fun _ _ _ h => h) (by rfl) (by intro w hSw; go_simp; with_reducible rfl) hS ?_; (try simp only [Act.put, List.setIfInBounds_toArray, List.set_cons_zero, List.set_cons_succ])); (refine KS_take 2 (by kernel_rfl) (by decide +kernel) (by decide +kernel) (by exact fun _ _ _ h => h) (by rfl) (by intro w hSw; go_simp; with_reducible rfl) hS ?_; (try simp only [Act.put, List.setIfInBounds_toArray, List.set_cons_zero, List.set_cons_succ])); (refine KS_take 3 (by kernel_rfl) (by decide +kernel) (by decide +kernel) (by exact fun _ _ _ h => h) (by rfl) (by intro w hSw; go_simp; with_reducible rfl) hS ?_; (try simp only [Act.put, List.setIfInBounds_toArray, List.set_cons_zero, List.set_cons_succ])); (refine KS_take 4 (by kernel_rfl) (by decide +kernel) (by decide +kernel) (by exact fun _ _ _ h => h) (by rfl) (by intro w hSw; go_simp; with_reducible rfl) hS ?_; (try simp only [Act.put, List.setIfInBounds_toArray, List.set_cons_zero, List.set_cons_succ])); (refine KS_take 5 (by kernel_rfl) (by decide +kernel) (by decide +kernel) (by exact fun _ _ _ h => h) (by rfl) (by intro w hSw; go_simp; with_reducible rfl) hS ?_; (try simp only [Act.put, List.setIfInBounds_toArray, List.set_cons_zero, List.set_cons_succ])); (refine KS_take 6 (by kernel_rfl) (by decide +kernel) (by decide +kernel) (by exact fun _ _ _ h => h) (by rfl) (by intro w hSw; go_simp; with_reducible rfl) hS ?_; (try simp only [Act.put, List.setIfInBounds_toArray, List.set_cons_zero, List.set_cons_succ])); (refine KS_take 7 (by kernel_rfl) (by decide +kernel) (by decide +kernel) (by exact fun _ _ _ h => h) (by rfl) (by intro w hSw; go_simp; with_reducible rfl) hS ?_; (try simp only [Act.put, List.setIfInBounds_toArray, List.set_cons_zero, List.set_cons_succ])); (refine KS_take 8 (by kernel_rfl) (by decide +kernel) (by decide +kernel) (by exact fun _ _ _ h => h) (by rfl) (by intro w hSw; go_simp; with_reducible rfl) hS ?_; (try simp only [Act.put, List.setIfInBounds_toArray, List.set_cons_zero, List.set_cons_succ]))
        (refine KS_take 9 (by kernel_rfl) (by decide +kernel) (by decide +kernel) (by exact fun _ _ _ h => h) (by rfl) (by first | exact KS_load1 _ _ rfl _ _ rfl | exact KS_load _ _ rfl _ _ rfl) hS ?_; (try simp only [Act.put, List.setIfInBounds_toArray, List.set_cons_zero, List.set_cons_succ]))
        (refine KS_take 10 (by kernel_rfl) (by decide +kernel) (by decide +kernel) (by exact fun _ _ _ h => h) (by rfl) (by first | exact KS_load1 _ _ rfl _ _ rfl | exact KS_load _ _ rfl _ _ rfl) hS ?_; (try simp only [Act.put, List.setIfInBounds_toArray, List.set_cons_zero, List.set_cons_succ]))
        (refine KS_one 11 (by decide +kernel) (by rfl) (fun K hk => ?_); (go_simp; (go_at_call 93; (with_reducible refine (place1_c es[x] k _).mono ?_); rintro e w1 ⟨rfl, hb⟩; have hK := hK.call hb; clear hb; dsimp only)); (refine hk.out _ _ hK.subs (fun hS => ?_); clear hk K; (try simp only [Act.put, List.setIfInBounds_toArray, List.set_cons_zero, List.set_cons_succ])))
        (refine KS_take 12 (by kernel_rfl) (by decide +kernel) (by decide +kernel) (by exact fun _ _ _ h => h) (by rfl) (by intro w hSw; go_simp; with_reducible rfl) hS ?_; (try simp only [Act.put, List.setIfInBounds_toArray, List.set_cons_zero, List.set_cons_succ])); (refine KS_take 13 (by kernel_rfl) (by decide +kernel) (by decide +kernel) (by exact fun _ _ _ h => h) (by rfl) (by intro w hSw; go_simp; with_reducible rfl) hS ?_; (try simp only [Act.put, List.setIfInBounds_toArray, List.set_cons_zero, List.set_cons_succ])); (refine KS_take 14 (by kernel_rfl) (by decide +kernel) (by decide +kernel) (by exact fun _ _ _ h => h) (by rfl) (by intro w hSw; go_simp; with_reducible rfl) hS ?_; (try simp only [Act.put, List.setIfInBounds_toArray, List.set_cons_zero, List.set_cons_succ])); (refine KS_take 15 (by kernel_rfl) (by decide +kernel) (by decide +kernel) (by exact fun _ _ _ h => h) (by rfl) (by intro w hSw; go_simp; with_reducible rfl) hS ?_; (try simp only [Act.put, List.setIfInBounds_toArray, List.set_cons_zero, List.set_cons_succ]))
        (refine wpAnyH_done (by kernel_rfl) ?_ _)
        go_wp2_with fail
        go_ret2
        unfold SrRet
        rw [HAT.out, ← HX.out]
        exact ⟨rfl, hK.tl rfl⟩
      · obtain rfl : x = es.length := by omega
        have hat : isAt Ent.n es k.n = false := by
          rw [isAt, ← hx, List.getElem?_eq_none (Nat.le_refl _)]
        have HX := Lib.hid hx
        have HAT := Lib.hid hat
        clear hx hat
        go_wp2_with fail
        (go_quiet (fail); replace hK := hK.drewN nq; generalize World.drewN _ nq = w at hK ⊢; clear nq)
        go_wp2_with fail
        go_ret2
        unfold SrRet
        rw [HAT.out, ← HX.out]
        exact ⟨rfl, hK.tl rfl⟩
set_option maxRecDepth 20000 in
set_option maxHeartbeats 1600000 in
theorem bsE_nil {F : Nat → Prop} {w0 w : World} {L : Mem} (hK : Kn F w0 w L) (k : Ky) :
    Calls Try.prog 92 #[.slice none 0 0, .agg (U k.b).toArray, .func (.func 93) #[] #[]] w (SrRet F w0 L 0 false) := by
  go_enter Try.func92, Try.ntmps92
  go_wp2_with ((with_reducible change wpList _ _ _ (_ :: _) _ _); first | ((with_reducible change wpList _ _ _ (Oper.mk _ (Op.load _ _) _ _ _ _ :: _) _ _); first | (refine KL_load1 hK (by rfl) _ _ rfl _ _ rfl ?_) | (refine KL_load hK (by rfl) _ _ rfl _ _ rfl ?_)) | ((with_reducible change wpList _ _ _ (Oper.mk _ (Op.store _ _ _) _ _ _ _ :: _) _ _); first | (refine KL_store1 hK (by rfl) _ _ _ rfl _ _ rfl _ (by conv => lhs; whnf) (by rfl) ?_; clear hK; intro w hK) | (refine KL_store hK (by rfl) _ _ _ rfl _ _ rfl _ rfl ?_; clear hK; intro w hK)) | ((with_reducible change wpList _ _ _ (Oper.mk _ (Op.alloc _) _ _ _ _ :: _) _ _); refine KL_alloc hK (by rfl) _ rfl ?_; clear hK; intro b w hK) | ((with_reducible change wpList _ _ _ (Oper.mk _ (Op.box _ _) _ _ _ _ :: _) _ _); refine KL_box hK (by rfl) _ _ rfl _ (by conv => lhs; whnf) ?_; clear hK; intro b w hK) | ((with_reducible change wpList _ _ _ (Oper.mk _ (Op.build _ _) _ _ _ _ :: _) _ _); first | (refine KL_build0 (by rfl) _ rfl ?_) | (refine KL_build1 (by rfl) _ _ _ rfl _ (by conv => lhs; whnf) ?_) | (refine KL_build2 (by rfl) _ _ _ _ _ rfl _ (by conv => lhs; whnf) _ (by conv => lhs; whnf) ?_) | (refine KL_build3 (by rfl) _ _ _ _ _ _ _ rfl _ (by conv => lhs; whnf) _ (by conv => lhs; whnf) _ (by conv => lhs; whnf) ?_) | (refine KL_build4 (by rfl) _ _ _ _ _ _ _ _ _ rfl _ (by conv => lhs; whnf) _ (by conv => lhs; whnf) _ (by conv => lhs; whnf) _ (by conv => lhs; whnf) ?_) | (refine KL_build5 (by rfl) _ _ _ _ _ _ _ _ _ _ _ rfl _ (by conv => lhs; whnf) _ (by conv => lhs; whnf) _ (by conv => lhs; whnf) _ (by conv => lhs; whnf) _ (by conv => lhs; whnf) ?_)) | ((with_reducible change wpList _ _ _ (Oper.mk _ (Op.binOp _ _ _ _ _) _ _ _ _ :: _) _ _); refine KL_cmp (by rfl) _ _ _ _ _ rfl _ _ rfl rfl ?_) | ((with_reducible change wpList _ _ _ (Oper.mk _ (Op.call _) _ _ _ _ :: _) _ _); refine KL_copy hK (by rfl) _ _ _ _ rfl _ _ _ _ _ _ _ _ rfl rfl _ _ (by first | exact Nat.min_eq_left (by first | decide | omega) | exact Nat.min_eq_right (by first | decide | omega)) (by first | exact Nat.mul_one _ | (conv => lhs; simp only [Nat.reduceMul])) ?_; clear hK; intro w hK) | ((with_reducible change wpList _ _ _ (Oper.mk _ (Op.index _ _ _) _ _ _ _ :: _) _ _); refine KL_index (by rfl) _ _ _ rfl _ rfl _ rfl _ (by conv => lhs; simp only [Int.reduceToNat, Int.toNat_natCast]) (by first | decide | omega) (by first | decide | omega) ?_) | ((with_reducible change wpList _ _ _ (Oper.mk _ (Op.sliceToArrayPointer _ _) _ _ _ _ :: _) _ _); refine KL_arr (by rfl) _ _ rfl _ _ _ rfl (by first | decide | omega) ?_))
  obtain ⟨bk, rfl⟩ := hK.n0
  go_loopw [9, 10] (fun i j wr => i = .int .i64 0 ∧ j = .int .i64 0 ∧ Kn F w0 wr ((bk, 23, U k.b) :: L)) (fun i j _ => 0)
  case atStart => exact ⟨rfl, rfl, hK⟩
  case round =>
    clear hK
    obtain ⟨rfl, rfl, hK⟩ := hrel
    go_wp2_with fail
    (go_quiet (fail); replace hK := hK.drewN nq; generalize World.drewN _ nq = w at hK ⊢; clear nq)
    go_wp2_with fail
    go_ret2
    exact ⟨rfl, hK.tl rfl⟩
theorem bsE_s {F : Nat → Prop} {w0 w : World} {M L : Mem} {v : Value} {es : List Ent} (hK : Kn F w0 w (M ++ L)) (hS : Sl 28 80 es.length (rows rE es) v M) (ha : Asc Ent.n es) (hn : es.length ≤ 900000) (k : Ky) :
    Calls Try.prog 92 #[v, .agg (U k.b).toArray, .func (.func 93) #[] #[]] w (SrRet F w0 (M ++ L) (lo Ent.n es k.n) (isAt Ent.n es k.n)) := by
  cases hS with
  | nil h0 hx =>
    obtain rfl : es = [] := List.eq_nil_of_length_eq_zero h0
    exact bsE_nil hK k
  | row g cap junk hx hc hnc hcap =>
    exact bsE_c (T := 28) (l := rows rE es ++ junk) (L := (g, 28, rows rE es ++ junk) :: L) hK (by rw [← hx, List.take_left]) (by rw [← hx, List.length_append]; omega) ha hn k
end Go.Proofs.Ytpkhomfblilkhaa.E
