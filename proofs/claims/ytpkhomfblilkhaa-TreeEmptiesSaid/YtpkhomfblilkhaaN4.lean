/- law16: key, entry walked; a tree of 13. -/
import Derived.Test.YtpkhomfblilkhaaN3
import Derived.Test.YtpkhomfblilkhaaF24
namespace Go.Proofs.Ytpkhomfblilkhaa.E
set_option linter.all false
open Go Go.RowKit

theorem keyI_b (n : Int) : AllB (((n % 1000) / 100) :: (Z 38 ++ [(n % 1000) % 100])) := by
  intro x hx
  rcases List.mem_cons.1 hx with rfl | hx
  · exact ⟨by omega, by omega⟩
  · rcases List.mem_append.1 hx with hx | hx
    · exact allB_Z 38 x hx
    · rw [List.mem_singleton] at hx; subst hx; exact ⟨by omega, by omega⟩
def keyI (n : Int) : Ky := ⟨((n % 1000) / 100) :: (Z 38 ++ [(n % 1000) % 100]), by simp, keyI_b n⟩
def entI (n v : Int) (hv : IsB v) : Ent := ⟨(keyI n).b ++ ([0, 0, 0, v] ++ Z 36), by simp [(keyI n).len], allB_app (keyI n).isb (allB_app (fun x hx => by
  rcases List.mem_cons.1 hx with rfl | hx; · exact ⟨by omega, by omega⟩
  rcases List.mem_cons.1 hx with rfl | hx; · exact ⟨by omega, by omega⟩
  rcases List.mem_cons.1 hx with rfl | hx; · exact ⟨by omega, by omega⟩
  rw [List.mem_singleton] at hx; exact hx ▸ hv) (allB_Z 36))⟩
theorem entI_ky (n v : Int) (hv : IsB v) : (entI n v hv).ky = keyI n := Ky.ext' (by
  show sub (entI n v hv).b 0 40 = (keyI n).b
  unfold sub entI
  rw [List.drop_zero, List.take_left' (keyI n).len])
instance : TySz Try.prog 69 3 := ⟨by kernel_rfl⟩
instance : TyRow Try.prog 69 := ⟨by kernel_rfl⟩
instance {n v : Int} : Bld Try.prog 69 [(1, .int .i64 n), (2, .int .u8 v)] [.int .i64 0, .int .i64 n, .int .u8 v] := ⟨fun w => run_build w 69 _ _ (by kernel_rfl)⟩
instance {k : Ky} : Bld Try.prog 28 [(0, .agg (U k.b).toArray)] (U k.b ++ U (Z 40)) := ⟨fun w => by
  refine run_build w 28 _ _ ?_
  rw [List.toList_toArray, built_ent]
  have la : (U k.b).length = 40 := by rw [U_length, k.len]
  have e0 : U (Z 80) = U (Z 40) ++ U (Z 40) := by rw [← U_append]; rfl
  have lz : (U (Z 40)).length = 40 := by simp
  rw [fill_step (off := 0) (size := 40) (cs := U k.b) rfl rfl la (by simp)]
  rw [splice_at (off := 0) (cs := U k.b) (L := U (Z 80)) (pre := []) (mid := U (Z 40)) (post := U (Z 40)) (by rw [e0]; rfl) rfl (by rw [lz, la])]
  rw [Instr.fill]
  simp⟩
set_option maxRecDepth 20000 in
set_option maxHeartbeats 1600000 in
theorem key16_c (n : Int) (hn : IntKind.i64.wrap n = n) (w : World) : Calls Try.prog 30 #[.int .i64 n] w fun r w' => r = .returned (.agg (U (keyI n).b).toArray) ∧ Below w.heap.size w w' := by
  refine Kn.begin (fun w0 hK => ?_)
  have hp := pick_c n 1000
  obtain ⟨z, hz⟩ : ∃ z, z = n % 1000 := ⟨_, rfl⟩
  have hk : (keyI n).b = (z / 100) :: (Z 38 ++ [z % 100]) := by rw [hz]; rfl
  have hpk : ∀ w, Calls Try.prog 21 #[.int .i64 n, .int .i64 1000] w fun r w' => r = .returned (.int .i64 z) ∧ w = w' := fun w => by
    refine (hp w (by omega) (by omega) hn).mono ?_
    rintro r w' ⟨rfl, rfl⟩
    exact ⟨by rw [hz], rfl⟩
  have h1 : 0 ≤ z := by omega
  have h2 : z < 1000 := by omega
  have HK := Lib.hid hk
  have HP := Lib.hid hpk
  have u1 : IntKind.u8.wrap (z / 100) = z / 100 := by show (z / 100) % 256 = z / 100; omega
  have u2 : IntKind.u8.wrap (z % 100) = z % 100 := by show (z % 100) % 256 = z % 100; omega
  haveI p1 : Put (U (Z 40)) 0 (.int .u8 (z / 100)) (U ((z / 100) :: Z 39)) := ⟨rfl, by simp⟩
  haveI p2 : Put (U ((z / 100) :: Z 39)) 39 (.int .u8 (z % 100)) (U (keyI n).b) := ⟨by rw [hk]; rfl, by simp⟩
  haveI s1 : Spl (U (Z 40)) 0 40 (U (keyI n).b) (U (keyI n).b) := ⟨splice_all (by simp [(keyI n).len]), by simp, by simp [(keyI n).len]⟩
  clear hp hk hpk hz hn
  go_enter Try.func30, Try.ntmps30
  go_wp2_with (first | ((with_reducible change wpList _ _ _ (_ :: _) _ _); first | ((with_reducible change wpList _ _ _ (Oper.mk _ (Op.load _ _) _ _ _ _ :: _) _ _); first | (refine KL_load1 hK (by rfl) _ _ rfl _ _ rfl ?_) | (refine KL_load hK (by rfl) _ _ rfl _ _ rfl ?_)) | ((with_reducible change wpList _ _ _ (Oper.mk _ (Op.store _ _ _) _ _ _ _ :: _) _ _); first | (refine KL_store1 hK (by rfl) _ _ _ rfl _ _ rfl _ (by conv => lhs; whnf) (by rfl) ?_; clear hK; intro w hK) | (refine KL_store hK (by rfl) _ _ _ rfl _ _ rfl _ rfl ?_; clear hK; intro w hK)) | ((with_reducible change wpList _ _ _ (Oper.mk _ (Op.alloc _) _ _ _ _ :: _) _ _); refine KL_alloc hK (by rfl) _ rfl ?_; clear hK; intro b w hK) | ((with_reducible change wpList _ _ _ (Oper.mk _ (Op.box _ _) _ _ _ _ :: _) _ _); refine KL_box hK (by rfl) _ _ rfl _ (by conv => lhs; whnf) ?_; clear hK; intro b w hK) | ((with_reducible change wpList _ _ _ (Oper.mk _ (Op.build _ _) _ _ _ _ :: _) _ _); first | (refine KL_build0 (by rfl) _ rfl ?_) | (refine KL_build1 (by rfl) _ _ _ rfl _ (by conv => lhs; whnf) ?_) | (refine KL_build2 (by rfl) _ _ _ _ _ rfl _ (by conv => lhs; whnf) _ (by conv => lhs; whnf) ?_) | (refine KL_build3 (by rfl) _ _ _ _ _ _ _ rfl _ (by conv => lhs; whnf) _ (by conv => lhs; whnf) _ (by conv => lhs; whnf) ?_) | (refine KL_build4 (by rfl) _ _ _ _ _ _ _ _ _ rfl _ (by conv => lhs; whnf) _ (by conv => lhs; whnf) _ (by conv => lhs; whnf) _ (by conv => lhs; whnf) ?_) | (refine KL_build5 (by rfl) _ _ _ _ _ _ _ _ _ _ _ rfl _ (by conv => lhs; whnf) _ (by conv => lhs; whnf) _ (by conv => lhs; whnf) _ (by conv => lhs; whnf) _ (by conv => lhs; whnf) ?_)) | ((with_reducible change wpList _ _ _ (Oper.mk _ (Op.binOp _ _ _ _ _) _ _ _ _ :: _) _ _); refine KL_cmp (by rfl) _ _ _ _ _ rfl _ _ rfl rfl ?_) | ((with_reducible change wpList _ _ _ (Oper.mk _ (Op.call _) _ _ _ _ :: _) _ _); refine KL_copy hK (by rfl) _ _ _ _ rfl _ _ _ _ _ _ _ _ rfl rfl _ _ (by first | exact Nat.min_eq_left (by first | decide | omega) | exact Nat.min_eq_right (by first | decide | omega)) (by first | exact Nat.mul_one _ | (conv => lhs; simp only [Nat.reduceMul])) ?_; clear hK; intro w hK) | ((with_reducible change wpList _ _ _ (Oper.mk _ (Op.index _ _ _) _ _ _ _ :: _) _ _); refine KL_index (by rfl) _ _ _ rfl _ rfl _ rfl _ (by conv => lhs; simp only [Int.reduceToNat, Int.toNat_natCast]) (by first | decide | omega) (by first | decide | omega) ?_) | ((with_reducible change wpList _ _ _ (Oper.mk _ (Op.sliceToArrayPointer _ _) _ _ _ _ :: _) _ _); refine KL_arr (by rfl) _ _ rfl _ _ _ rfl (by first | decide | omega) ?_)) | (go_at_call 21; (with_reducible refine (HP.out _).mono ?_); rintro r w1 ⟨rfl, rfl⟩))
  ((try simp only [Exit.inBlock, Exit.then]); (first | refine KR_ct hK rfl rfl rfl ?_ | refine KR_c hK rfl rfl rfl ?_))
  exact ⟨rfl, hK.below⟩
set_option maxRecDepth 20000 in
set_option maxHeartbeats 1600000 in
theorem entry16_c (k n v : Int) (hn : IntKind.i64.wrap n = n) (hv : IsB v) (w : World) : Calls Try.prog 29 #[.agg #[.int .i64 k, .int .i64 n, .int .u8 v]] w fun r w' => r = .returned (.agg (U (entI n v hv).b).toArray) ∧ Below w.heap.size w w' := by
  refine Kn.begin (fun w0 hK => ?_)
  have HK := Lib.hid (key16_c n hn)
  haveI p1 : Put (U (keyI n).b ++ U (Z 40)) 43 (.int .u8 v) (U (entI n v hv).b) := ⟨by
    show _ = U ((keyI n).b ++ ([0, 0, 0, v] ++ Z 36))
    have e0 : U (Z 40) = U [0, 0, 0] ++ (.int .u8 0 :: U (Z 36)) := rfl
    rw [set_at (L := U (keyI n).b ++ U (Z 40)) (off := 43) (pre := U (keyI n).b ++ U [0, 0, 0]) (x := .int .u8 0) (post := U (Z 36)) (by rw [e0]; simp) (by simp [(keyI n).len])]
    rw [U_append]
    simp [U], by simp [(keyI n).len]⟩
  haveI s1 : Spl (U (Z 80)) 0 80 (U (keyI n).b ++ U (Z 40)) (U (keyI n).b ++ U (Z 40)) := ⟨splice_all (by simp [(keyI n).len]), by simp, by simp [(keyI n).len]⟩
  clear hn
  go_enter Try.func29, Try.ntmps29
  go_wp2_with (first | ((with_reducible change wpList _ _ _ (_ :: _) _ _); first | ((with_reducible change wpList _ _ _ (Oper.mk _ (Op.load _ _) _ _ _ _ :: _) _ _); first | (refine KL_load1 hK (by rfl) _ _ rfl _ _ rfl ?_) | (refine KL_load hK (by rfl) _ _ rfl _ _ rfl ?_)) | ((with_reducible change wpList _ _ _ (Oper.mk _ (Op.store _ _ _) _ _ _ _ :: _) _ _); first | (refine KL_store1 hK (by rfl) _ _ _ rfl _ _ rfl _ (by conv => lhs; whnf) (by rfl) ?_; clear hK; intro w hK) | (refine KL_store hK (by rfl) _ _ _ rfl _ _ rfl _ rfl ?_; clear hK; intro w hK)) | ((with_reducible change wpList _ _ _ (Oper.mk _ (Op.alloc _) _ _ _ _ :: _) _ _); refine KL_alloc hK (by rfl) _ rfl ?_; clear hK; intro b w hK) | ((with_reducible change wpList _ _ _ (Oper.mk _ (Op.box _ _) _ _ _ _ :: _) _ _); refine KL_box hK (by rfl) _ _ rfl _ (by conv => lhs; whnf) ?_; clear hK; intro b w hK) | ((with_reducible change wpList _ _ _ (Oper.mk _ (Op.build _ _) _ _ _ _ :: _) _ _); first | (refine KL_build0 (by rfl) _ rfl ?_) | (refine KL_build1 (by rfl) _ _ _ rfl _ (by conv => lhs; whnf) ?_) | (refine KL_build2 (by rfl) _ _ _ _ _ rfl _ (by conv => lhs; whnf) _ (by conv => lhs; whnf) ?_) | (refine KL_build3 (by rfl) _ _ _ _ _ _ _ rfl _ (by conv => lhs; whnf) _ (by conv => lhs; whnf) _ (by conv => lhs; whnf) ?_) | (refine KL_build4 (by rfl) _ _ _ _ _ _ _ _ _ rfl _ (by conv => lhs; whnf) _ (by conv => lhs; whnf) _ (by conv => lhs; whnf) _ (by conv => lhs; whnf) ?_) | (refine KL_build5 (by rfl) _ _ _ _ _ _ _ _ _ _ _ rfl _ (by conv => lhs; whnf) _ (by conv => lhs; whnf) _ (by conv => lhs; whnf) _ (by conv => lhs; whnf) _ (by conv => lhs; whnf) ?_)) | ((with_reducible change wpList _ _ _ (Oper.mk _ (Op.binOp _ _ _ _ _) _ _ _ _ :: _) _ _); refine KL_cmp (by rfl) _ _ _ _ _ rfl _ _ rfl rfl ?_) | ((with_reducible change wpList _ _ _ (Oper.mk _ (Op.call _) _ _ _ _ :: _) _ _); refine KL_copy hK (by rfl) _ _ _ _ rfl _ _ _ _ _ _ _ _ rfl rfl _ _ (by first | exact Nat.min_eq_left (by first | decide | omega) | exact Nat.min_eq_right (by first | decide | omega)) (by first | exact Nat.mul_one _ | (conv => lhs; simp only [Nat.reduceMul])) ?_; clear hK; intro w hK) | ((with_reducible change wpList _ _ _ (Oper.mk _ (Op.index _ _ _) _ _ _ _ :: _) _ _); refine KL_index (by rfl) _ _ _ rfl _ rfl _ rfl _ (by conv => lhs; simp only [Int.reduceToNat, Int.toNat_natCast]) (by first | decide | omega) (by first | decide | omega) ?_) | ((with_reducible change wpList _ _ _ (Oper.mk _ (Op.sliceToArrayPointer _ _) _ _ _ _ :: _) _ _); refine KL_arr (by rfl) _ _ rfl _ _ _ rfl (by first | decide | omega) ?_)) | (go_at_call 30; (with_reducible refine (HK.out _).mono ?_); rintro e w1 ⟨rfl, hb⟩; replace hK := hK.call hb; clear hb))
  ((try simp only [Exit.inBlock, Exit.then]); (first | refine KR_ct hK rfl rfl rfl ?_ | refine KR_c hK rfl rfl rfl ?_))
  exact ⟨rfl, hK.below⟩
/-! ### A tree of thirteen entries has three nodes -/
theorem nct_pos : ∀ (d : Nat) (t : Tr d), 1 ≤ nct d t
  | 0, _ => Nat.le_refl _
  | _ + 1, t => by show 1 ≤ (t.2.map _).sum + 1; omega
theorem sum_ge {d : Nat} (us : List (Tr d)) : us.length ≤ (us.map (nct d)).sum := by
  induction us with
  | nil => exact Nat.le_refl _
  | cons u us ih => have := nct_pos d u; simp only [List.map_cons, List.sum_cons, List.length_cons]; omega
theorem nodes_13 {x : Top} (h : Inv x) (hl : (entsT x).length = 13) (b : Nat) : ∃ p q r, nodesT x.1 x.2 b = [p, q, r] ∧ r.kids.length = 2 := by
  obtain ⟨d, t⟩ := x
  match d, t, h, hl with
  | 0, es, h, hl =>
    have h1 : List.length (α := Ent) es ≤ 12 := h.lim
    have h2 : List.length (α := Ent) es = 13 := hl
    omega
  | 1, (ks, us), h, hl =>
    have h2 : 2 ≤ us.length := h.big.2 (Nat.succ_pos 0)
    have h3 := ents_sum (d := 0) us
    have h4 : (us.flatMap (ents 0)).length = 13 := hl
    have h5 : ∀ (us : List (Tr 0)), (∀ u ∈ us, Big 0 u) → 6 * us.length ≤ (us.map (fun u => (ents 0 u).length)).sum := by
      intro us
      induction us with
      | nil => intro _; simp
      | cons u us ih =>
        intro hb
        have h1 : 6 ≤ (ents 0 u).length := hb u (by simp)
        have h2 := ih fun v hv => hb v (by simp [hv])
        simp only [List.map_cons, List.sum_cons, List.length_cons]
        omega
    have h6 := h5 us (fun u hu => h.big.1 u hu)
    match us, h2, h6, h3 with
    | [u, v], _, _, _ => exact ⟨_, _, _, rfl, rfl⟩
    | u :: v :: x :: l, _, h6, h3 => rw [← h3, h4] at h6; simp at h6; omega
  | d + 2, (ks, us), h, hl =>
    exfalso
    have h2 : 2 ≤ us.length := h.big.2 (Nat.succ_pos _)
    match us, h2 with
    | u :: v :: l, _ =>
      have hb : Big (d + 1) u := h.big.1 u (by simp)
      have h3 := sum_le5 u.2 fun w hw => nct_big d (hb.2 w hw)
      have h4 := sum_ge u.2
      have h5 := ents_sum u.2
      have h6 := hb.1
      have h7 : (ents (d + 1) u).length ≤ 13 := by
        rw [← hl]
        show _ ≤ ((u :: v :: l).flatMap (ents (d + 1))).length
        rw [List.flatMap_cons, List.length_append]; omega
      have h8 : (ents (d + 1) u).length = (u.2.flatMap (ents d)).length := rfl
      omega
end Go.Proofs.Ytpkhomfblilkhaa.E
