/- WalkGoes walked. -/
import Derived.Test.YtpkhomfblilkhaaF28
import Derived.Test.YtpkhomfblilkhaaF30
namespace Go.Proofs.Ytpkhomfblilkhaa.E
set_option linter.all false
open Go Go.RowKit

theorem asc_one : ∀ {es : List Ent}, Asc Ent.n es → ∀ {a b : Ent}, a ∈ es → b ∈ es → a.n = b.n → a = b
  | [], _, _, _, h, _, _ => by cases h
  | x :: l, ha, a, b, h1, h2, h => by
    obtain ⟨p1, p2⟩ := List.pairwise_cons.1 ha
    rcases List.mem_cons.1 h1 with e1 | e1 <;> rcases List.mem_cons.1 h2 with e2 | e2
    · rw [e1, e2]
    · have := p1 b e2; rw [e1] at h; omega
    · have := p1 a e1; rw [e2] at h; omega
    · exact asc_one p2 e1 e2 h
/-- Where both stand. -/
def Sim (f l : Ky) (t : Bool) (f' : Ky) (wi : Bool) : Prop := (t = false ∧ f' = f ∧ wi = true) ∨ (t = true ∧ f' = l ∧ wi = false ∧ f.n ≤ l.n)
theorem sim_pass {f g l f' : Ky} {t wi : Bool} (hs : Sim f l t f' wi) (e : Ent) : passR f g l t e = (behind f'.n wi e && decide (e.n < g.n)) := by
  unfold passR behind
  rcases hs with ⟨rfl, rfl, rfl⟩ | ⟨rfl, rfl, rfl, h⟩
  · simp
  · rw [Bool.eq_iff_iff]
    simp
    omega
theorem sim_next {es rs : List Ent} {f g l f' : Ky} {t wi : Bool} {x : Option Ent} (ha : Asc Ent.n es) (hp : es.Perm rs) (hs : Sim f l t f' wi) (hm : MinOf rs (passR f g l t) x) : x = nextE es f' g wi := by
  have e0 : toldL es f' g wi = es.filter (passR f g l t) := List.filter_congr fun e _ => (sim_pass hs e).symm
  rw [told_head ha, e0]
  cases x with
  | none =>
    rw [filter_none fun e he => hm e (hp.mem_iff.1 he)]; rfl
  | some m =>
    obtain ⟨h1, h2, h3⟩ := hm
    have hme := hp.mem_iff.2 h1
    cases hf : es.filter (passR f g l t) with
    | nil =>
      have : m ∈ es.filter (passR f g l t) := List.mem_filter.2 ⟨hme, h2⟩
      rw [hf] at this; cases this
    | cons y ys =>
      have hy : y ∈ es.filter (passR f g l t) := by rw [hf]; simp
      obtain ⟨hye, hyp⟩ := List.mem_filter.1 hy
      have h4 := h3 y (hp.mem_iff.1 hye) hyp
      have hasc : Asc Ent.n (y :: ys) := hf ▸ ha.sublist List.filter_sublist
      have hmm : m ∈ y :: ys := hf ▸ List.mem_filter.2 ⟨hme, h2⟩
      have h5 : y.n ≤ m.n := by
        rcases List.mem_cons.1 hmm with rfl | hmm
        · exact Nat.le_refl _
        · exact Nat.le_of_lt ((List.pairwise_cons.1 hasc).1 m hmm)
      rw [asc_one ha hme hye (by omega)]; rfl
theorem sim_some {es : List Ent} {f g l f' : Ky} {t wi : Bool} {e : Ent} (hs : Sim f l t f' wi) (hx : nextE es f' g wi = some e) : Sim f e.ky true e.ky false := by
  refine .inr ⟨rfl, rfl, rfl, ?_⟩
  unfold nextE at hx
  split at hx
  · cases hx
  · rename_i y hy
    split at hx
    · cases hx
      have hb := List.find?_some hy
      unfold behind at hb
      rcases hs with ⟨rfl, rfl, rfl⟩ | ⟨rfl, rfl, rfl, h⟩
      · simp at hb; exact hb
      · simp at hb; show f.n ≤ e.n; omega
    · cases hx
/-- A row of cells that can be read. -/
def RdX {α : Type} (f : α → List Value) (w : World) (v : Value) (xs : List α) : Prop := ∃ a c, v = .slice a xs.length c ∧ xs.length ≤ maxLen ∧ (0 < xs.length → ∃ g o, a = some ⟨g, o, none⟩ ∧ Old Nil w g o (rows f xs))
/-- A step: a number, an entry. -/
structure DoT where
  op : Int
  e : Ent
  hop : IntKind.i64.wrap op = op
def rD (d : DoT) : List Value := .int .i64 d.op :: U d.e.b
theorem rD_len (d : DoT) : (rD d).length = 81 := by simp [rD, d.e.len]
theorem rangeAt_one {w : World} {g o : Nat} {v : Value} (h : w.rangeAt g o [v]) : w.cell? ⟨g, o, none⟩ = some v := h 0 v rfl
section
variable {P : Program} {ops : Array Oper} {rest : List Oper} {o : Oper} {a : Act} {w : World} {Q : Exit → Act → World → Prop} {K : Act → World → Prop}
theorem KL_loadC (hgd : Region.wanted o (yielded ops a.tmps) = true) (T : TypeId) (x : Operand) (ho : o.op = .load T x) (b off : Nat) (hx : a.eval x = .pointer (some ⟨b, off, none⟩)) {v : Value} (hc : w.cell? ⟨b, off, none⟩ = some v) [ht : TyOne P T]
    (h : wpList P ops Q rest (a.put o.dst v) w) : wpList P ops Q (o :: rest) a w :=
  wpList_want hgd fun _ hk => by
    obtain ⟨d, hu, hd⟩ := isOne_of ht
    unfold Oper.wp execOp
    simp only [ho, hx]
    simp [Instr.loadAt, Instr.sureAddr, loadVar, isAgg_of hu hd, hc]
    exact hk _ _ h
end
theorem built_rcur (parts : List (Nat × Value)) : Try.prog.built 53 parts = Instr.fill (fun i => (#[(0, 40), (40, 40), (80, 40), (120, 1)] : Array (Nat × Nat))[i]?) (U (Z 40) ++ (U (Z 40) ++ (U (Z 40) ++ [Value.bool false]))).toArray parts := by kernel_rfl
instance {f g : Ky} : Bld Try.prog 53 [(0, .agg (U f.b).toArray), (1, .agg (U g.b).toArray)] (rrow f g Ky.zero false) := ⟨fun w => by
  refine run_build w 53 _ _ ?_
  rw [List.toList_toArray, built_rcur]
  have lz : (U (Z 40)).length = 40 := by simp
  have lf : (U f.b).length = 40 := by rw [U_length, f.len]
  have lg : (U g.b).length = 40 := by rw [U_length, g.len]
  rw [fill_step (off := 0) (size := 40) (cs := U f.b) rfl rfl lf (by simp)]
  rw [splice_at (off := 0) (cs := U f.b) (L := U (Z 40) ++ (U (Z 40) ++ (U (Z 40) ++ [Value.bool false]))) (pre := []) (mid := U (Z 40)) (post := U (Z 40) ++ (U (Z 40) ++ [Value.bool false])) rfl rfl (by rw [lz, lf])]
  rw [fill_step (off := 40) (size := 40) (cs := U g.b) rfl rfl lg (by simp [f.len])]
  rw [splice_at (off := 40) (cs := U g.b) (L := [] ++ (U f.b ++ (U (Z 40) ++ (U (Z 40) ++ [Value.bool false])))) (pre := U f.b) (mid := U (Z 40)) (post := U (Z 40) ++ [Value.bool false]) (by simp) lf (by rw [lz, lg])]
  rw [Instr.fill]
  simp [rrow, Ky.zero]⟩
instance (priority := 2000) {x : Ent} : Cmp Try.prog .neq 28 (U x.b) (U x.b) false := ⟨fun w => by rw [neq_entry]; simp⟩
instance (priority := 2000) : Cmp Try.prog .neq 28 (U (Z 80)) (U (Z 80)) false := ⟨fun w => (neq_entry Ent.zero Ent.zero w).trans (by simp)⟩
theorem Del_y {F : Nat → Prop} {w0 w : World} {L M : Mem} {b : Nat} {es : List Ent} (k : Ky) (hT : Tree b es M) (hn : es.length ≤ 1000000) (Y : Mem) (hK : Kn F w0 w (Y ++ (M ++ L))) :
    Calls Try.prog 24 #[.pointer (some ⟨b, 0, none⟩), .agg (U k.b).toArray] w fun r w' => r = .returned (.int .i64 (if hasN es k.n = true then 0 else 6)) ∧ ∃ M', Tree b (delE es k.n) M' ∧ Kn F w0 w' (Y ++ (M' ++ L)) := by
  have h1 : Kn F w0 w (M ++ (Y ++ L)) := (Kn.mv hK [] (fun f => by simp only [wt_append, wt_cons, wt_nil]; omega))
  refine (Del_t k h1 hT hn).mono ?_
  rintro r w' ⟨rfl, M', hM, h'⟩
  exact ⟨rfl, M', hM, (Kn.mv h' [] (fun f => by simp only [wt_append, wt_cons, wt_nil]; omega))⟩
theorem next_some' {F : Nat → Prop} {w0 w : World} {L M : Mem} {b c : Nat} {es : List Ent} {f g : Ky} {wi : Bool} {e : Ent} (hT : Tree b es M) (hx : nextE es f g wi = some e) (Y : Mem) (hK : Kn F w0 w ((c, 33, curRow (aftV b) f g wi) :: (Y ++ (M ++ L)))) :
    Calls Try.prog 13 #[.pointer (some ⟨c, 0, none⟩)] w fun r w' => r = .returned (.tuple #[.agg (U e.b).toArray, .bool true]) ∧ Kn F w0 w' ((c, 33, curRow (aftV b) e.ky g false) :: (Y ++ (M ++ L))) := by
  have h1 : Kn F w0 w (Y ++ ((c, 33, curRow (aftV b) f g wi) :: (M ++ L))) := (Kn.mv hK [] (fun f => by simp only [wt_append, wt_cons, wt_nil]; omega))
  refine (next_some hT hx Y h1).mono ?_
  rintro r w' ⟨rfl, h'⟩
  exact ⟨rfl, (Kn.mv h' [] (fun f => by simp only [wt_append, wt_cons, wt_nil]; omega))⟩
set_option maxRecDepth 20000 in
set_option maxHeartbeats 6400000 in
theorem walkGoes_w {w : World} {v vm : Value} {l : List Ent} {ms : List DoT} (hr : Rd w v l) (hm : RdX rD w vm ms) (kf kg : Ky) : Calls Try.prog 5 #[v, .agg (U kf.b).toArray, .agg (U kg.b).toArray, vm] w fun r w' => r = .returned (.bool true) ∧ Below w.heap.size w w' := by
  obtain ⟨am, cm, rfl, hml, ham⟩ := hm
  suffices key : ∀ w0, Kn Nil w0 w [] → Rd w0 v l → (0 < ms.length → ∃ g o, am = some ⟨g, o, none⟩ ∧ Old Nil w0 g o (rows rD ms)) → Calls Try.prog 5 #[v, .agg (U kf.b).toArray, .agg (U kg.b).toArray, .slice am ms.length cm] w fun r w' => r = .returned (.bool true) ∧ Below w0.heap.size w0 w' from key w (Kn.start _ _) hr ham
  clear hr ham
  intro w0 hK hr ham
  have hP : ∀ w X, Kn Nil w0 w X → Calls Try.prog 16 #[v] w (PlRet w (l.take 200)) := fun w X h => planted_c (Rd.later h hr)
  have HP := Lib.hid hP
  have HM := Lib.hid ham
  clear hP hr ham
  unfold maxLen at hml
  have hle : (insAll (l.take 200)).length ≤ 200 := by
    have := (insAll_le (l.take 200) (l.take 200).length (Nat.le_refl _)).1
    rw [List.take_length] at this
    have h2 : (l.take 200).length ≤ 200 := List.length_take_le _ _
    omega
  go_enter Try.func5, Try.ntmps5
  go_wp2_with ((with_reducible change wpList _ _ _ (_ :: _) _ _); first | ((with_reducible change wpList _ _ _ (Oper.mk _ (Op.load _ _) _ _ _ _ :: _) _ _); first | (refine KL_load1 hK (by rfl) _ _ rfl _ _ rfl ?_) | (refine KL_load hK (by rfl) _ _ rfl _ _ rfl ?_)) | ((with_reducible change wpList _ _ _ (Oper.mk _ (Op.store _ _ _) _ _ _ _ :: _) _ _); first | (refine KL_store1 hK (by rfl) _ _ _ rfl _ _ rfl _ (by conv => lhs; whnf) (by rfl) ?_; clear hK; intro w hK) | (refine KL_store hK (by rfl) _ _ _ rfl _ _ rfl _ rfl ?_; clear hK; intro w hK)) | ((with_reducible change wpList _ _ _ (Oper.mk _ (Op.alloc _) _ _ _ _ :: _) _ _); refine KL_alloc hK (by rfl) _ rfl ?_; clear hK; intro b w hK) | ((with_reducible change wpList _ _ _ (Oper.mk _ (Op.box _ _) _ _ _ _ :: _) _ _); refine KL_box hK (by rfl) _ _ rfl _ (by conv => lhs; whnf) ?_; clear hK; intro b w hK) | ((with_reducible change wpList _ _ _ (Oper.mk _ (Op.build _ _) _ _ _ _ :: _) _ _); first | (refine KL_build0 (by rfl) _ rfl ?_) | (refine KL_build1 (by rfl) _ _ _ rfl _ (by conv => lhs; whnf) ?_) | (refine KL_build2 (by rfl) _ _ _ _ _ rfl _ (by conv => lhs; whnf) _ (by conv => lhs; whnf) ?_) | (refine KL_build3 (by rfl) _ _ _ _ _ _ _ rfl _ (by conv => lhs; whnf) _ (by conv => lhs; whnf) _ (by conv => lhs; whnf) ?_) | (refine KL_build4 (by rfl) _ _ _ _ _ _ _ _ _ rfl _ (by conv => lhs; whnf) _ (by conv => lhs; whnf) _ (by conv => lhs; whnf) _ (by conv => lhs; whnf) ?_) | (refine KL_build5 (by rfl) _ _ _ _ _ _ _ _ _ _ _ rfl _ (by conv => lhs; whnf) _ (by conv => lhs; whnf) _ (by conv => lhs; whnf) _ (by conv => lhs; whnf) _ (by conv => lhs; whnf) ?_)) | ((with_reducible change wpList _ _ _ (Oper.mk _ (Op.binOp _ _ _ _ _) _ _ _ _ :: _) _ _); refine KL_cmp (by rfl) _ _ _ _ _ rfl _ _ rfl rfl ?_) | ((with_reducible change wpList _ _ _ (Oper.mk _ (Op.call _) _ _ _ _ :: _) _ _); refine KL_copy hK (by rfl) _ _ _ _ rfl _ _ _ _ _ _ _ _ rfl rfl _ _ (by first | exact Nat.min_eq_left (by first | decide | omega) | exact Nat.min_eq_right (by first | decide | omega)) (by first | exact Nat.mul_one _ | (conv => lhs; simp only [Nat.reduceMul])) ?_; clear hK; intro w hK) | ((with_reducible change wpList _ _ _ (Oper.mk _ (Op.index _ _ _) _ _ _ _ :: _) _ _); refine KL_index (by rfl) _ _ _ rfl _ rfl _ rfl _ (by conv => lhs; simp only [Int.reduceToNat, Int.toNat_natCast]) (by first | decide | omega) (by first | decide | omega) ?_) | ((with_reducible change wpList _ _ _ (Oper.mk _ (Op.sliceToArrayPointer _ _) _ _ _ _ :: _) _ _); refine KL_arr (by rfl) _ _ rfl _ _ _ rfl (by first | decide | omega) ?_))
  obtain ⟨b6, rfl⟩ := hK.n0
  obtain ⟨b5, rfl⟩ := hK.n1
  refine (HP.out _ _ hK).mono ?_
  rintro r w1 ⟨tb, vr, Mt, Mo, rfl, hTr, hSo, hK'⟩
  replace hK := hK.more hK'
  have hK1 : Kn Nil w0 w1 ((b6, 23, U kg.b) :: (b5, 23, U kf.b) :: (Mo ++ (Mt ++ []))) := (Kn.mv hK [] (fun f => by simp only [wt_append, wt_cons, wt_nil]; omega))
  clear hK hK' HP
  have hK := hK1
  clear hK1
  go_wp2_with fail
  apply wp_meet2 hK
  case h =>
    (refine wp_region_sub hK [(b6, 23, U kg.b), (b5, 23, U kf.b)] (by kernel_rfl) ?_; (try clear hK); intro w hK hS)
    (refine KS_take 0 (by kernel_rfl) (by decide +kernel) (by decide +kernel) (by exact fun _ _ _ h => h) (by rfl) (by intro w hSw; go_simp; with_reducible rfl) hS ?_; (try simp only [Act.put, List.setIfInBounds_toArray, List.set_cons_zero, List.set_cons_succ]))
    (refine KS_take 1 (by kernel_rfl) (by decide +kernel) (by decide +kernel) (by exact fun _ _ _ h => h) (by rfl) (by exact KS_load _ _ rfl _ _ rfl) hS ?_; (try simp only [Act.put, List.setIfInBounds_toArray, List.set_cons_zero, List.set_cons_succ]))
    (refine KS_take 2 (by kernel_rfl) (by decide +kernel) (by decide +kernel) (by exact fun _ _ _ h => h) (by rfl) (by exact KS_load _ _ rfl _ _ rfl) hS ?_; (try simp only [Act.put, List.setIfInBounds_toArray, List.set_cons_zero, List.set_cons_succ]))
    (refine KS_take 4 (by kernel_rfl) (by decide +kernel) (by decide +kernel) (by exact fun _ _ _ h => h) (by rfl) (by exact KS_load _ _ rfl _ _ rfl) hS ?_; (try simp only [Act.put, List.setIfInBounds_toArray, List.set_cons_zero, List.set_cons_succ]))
    (refine KS_take 5 (by kernel_rfl) (by decide +kernel) (by decide +kernel) (by exact fun _ _ _ h => h) (by rfl) (by exact KS_load _ _ rfl _ _ rfl) hS ?_; (try simp only [Act.put, List.setIfInBounds_toArray, List.set_cons_zero, List.set_cons_succ]))
    (refine KS_take 6 (by kernel_rfl) (by decide +kernel) (by decide +kernel) (by exact fun _ _ _ h => h) (by rfl) (by exact KO_build2 _ _ _ _ _ rfl _ (by conv => lhs; whnf) _ (by conv => lhs; whnf)) hS ?_; (try simp only [Act.put, List.setIfInBounds_toArray, List.set_cons_zero, List.set_cons_succ]))
    refine KS_two 3 7 (by decide +kernel) (by rfl) (by rfl) (fun K hk => ?_) (fun K hk => ?_)
    · go_simp
      (go_at_call 14; refine (wNew_c (b := tb) (f := kf) (g := kg) hK).mono ?_; rintro r w1 ⟨c, rfl, hK'⟩; (try clear hK); have hK := hK'; clear hK'; dsimp only)
      (refine hk.out _ _ hK.subs (fun hS => ?_); clear hk K; (try simp only [Act.put, List.setIfInBounds_toArray, List.set_cons_zero, List.set_cons_succ]))
      (refine KS_take 8 (by kernel_rfl) (by decide +kernel) (by decide +kernel) (by exact fun _ _ _ h => h) (by rfl) (by intro w hSw; go_simp; with_reducible rfl) hS ?_; (try simp only [Act.put, List.setIfInBounds_toArray, List.set_cons_zero, List.set_cons_succ]))
      (refine KS_one 7 (by decide +kernel) (by rfl) (fun K hk => ?_); (refine KO_box hK _ _ rfl _ (by conv => lhs; whnf) ?_; (try clear hK); intro d w hK); (refine hk.out _ _ hK.subs (fun hS => ?_); clear hk K; (try simp only [Act.put, List.setIfInBounds_toArray, List.set_cons_zero, List.set_cons_succ])))
      (refine KS_take 9 (by kernel_rfl) (by decide +kernel) (by decide +kernel) (by exact fun _ _ _ h => h) (by rfl) (by intro w hSw; go_simp; with_reducible rfl) hS ?_; (try simp only [Act.put, List.setIfInBounds_toArray, List.set_cons_zero, List.set_cons_succ]))
      (refine wpAnyH_done (by kernel_rfl) ?_ _)
      exact ⟨c, d, rfl, hK⟩
    · refine KO_box hK _ _ rfl _ (by conv => lhs; whnf) ?_; (try clear hK); intro d w hK
      (refine hk.out _ _ hK.subs (fun hS => ?_); clear hk K; (try simp only [Act.put, List.setIfInBounds_toArray, List.set_cons_zero, List.set_cons_succ]))
      (refine KS_one 3 (by decide +kernel) (by rfl) (fun K hk => ?_); (go_simp; (go_at_call 14; refine (wNew_c (b := tb) (f := kf) (g := kg) hK).mono ?_; rintro r w1 ⟨c, rfl, hK'⟩; (try clear hK); have hK := hK'; clear hK'; dsimp only)); (refine hk.out _ _ hK.subs (fun hS => ?_); clear hk K; (try simp only [Act.put, List.setIfInBounds_toArray, List.set_cons_zero, List.set_cons_succ])))
      (refine KS_take 8 (by kernel_rfl) (by decide +kernel) (by decide +kernel) (by exact fun _ _ _ h => h) (by rfl) (by intro w hSw; go_simp; with_reducible rfl) hS ?_; (try simp only [Act.put, List.setIfInBounds_toArray, List.set_cons_zero, List.set_cons_succ])); (refine KS_take 9 (by kernel_rfl) (by decide +kernel) (by decide +kernel) (by exact fun _ _ _ h => h) (by rfl) (by intro w hSw; go_simp; with_reducible rfl) hS ?_; (try simp only [Act.put, List.setIfInBounds_toArray, List.set_cons_zero, List.set_cons_succ]))
      (refine wpAnyH_done (by kernel_rfl) ?_ _)
      exact ⟨c, d, rfl, (Kn.mv hK [] (fun f => by simp only [wt_append, wt_cons, wt_nil]; omega))⟩
  case k =>
    clear hK
    intro c d w hK
    replace hK : Kn Nil w0 w ((c, 33, curRow (aftV tb) kf kg true) :: (d, 53, rrow kf kg Ky.zero false) :: (Mo ++ (Mt ++ []))) := (Kn.mv hK [(b6, 23, U kg.b), (b5, 23, U kf.b)] (fun f => by simp only [wt_append, wt_cons, wt_nil]; omega))
    go_wp2_with fail
    go_loopw [10, 13] (fun rv n wr => ∃ (j : Nat) (es rs : List Ent) (Mt Mo : Mem) (f' kl : Ky) (wi t : Bool), j ≤ ms.length ∧ j ≤ 200 ∧ n = .int .i64 j ∧ Sl 28 80 rs.length (rows rE rs) rv Mo ∧ es.Perm rs ∧ Tree tb es Mt ∧ es.length ≤ 200 + j ∧ Sim kf kl t f' wi ∧ Kn Nil w0 wr ((c, 33, curRow (aftV tb) f' kg wi) :: (d, 53, rrow kf kg kl t) :: (Mo ++ (Mt ++ [])))) (fun _ n _ => ms.length - (intOf n).toNat)
    case atStart => exact ⟨0, _, _, Mt, Mo, kf, Ky.zero, true, false, Nat.zero_le _, Nat.zero_le _, rfl, hSo, all_perm _, hTr, by omega, .inl ⟨rfl, rfl, rfl⟩, hK⟩
    case round =>
      clear hK hTr hSo hle Mt Mo
      obtain ⟨j, es, rs, Mt, Mo, f', kl, wi, t, hj, hj2, rfl, hSo, hperm, hTr, hlen, hsim, hK⟩ := hrel
      by_cases hlt : j < ms.length
      rotate_left
      · obtain rfl : j = ms.length := by omega
        go_wp2_with (first | ((with_reducible change wpList _ _ _ (_ :: _) _ _); first | ((with_reducible change wpList _ _ _ (Oper.mk _ (Op.load _ _) _ _ _ _ :: _) _ _); first | (refine KL_load1 hK (by rfl) _ _ rfl _ _ rfl ?_) | (refine KL_load hK (by rfl) _ _ rfl _ _ rfl ?_)) | ((with_reducible change wpList _ _ _ (Oper.mk _ (Op.store _ _ _) _ _ _ _ :: _) _ _); first | (refine KL_store1 hK (by rfl) _ _ _ rfl _ _ rfl _ (by conv => lhs; whnf) (by rfl) ?_; clear hK; intro w hK) | (refine KL_store hK (by rfl) _ _ _ rfl _ _ rfl _ rfl ?_; clear hK; intro w hK)) | ((with_reducible change wpList _ _ _ (Oper.mk _ (Op.alloc _) _ _ _ _ :: _) _ _); refine KL_alloc hK (by rfl) _ rfl ?_; clear hK; intro b w hK) | ((with_reducible change wpList _ _ _ (Oper.mk _ (Op.box _ _) _ _ _ _ :: _) _ _); refine KL_box hK (by rfl) _ _ rfl _ (by conv => lhs; whnf) ?_; clear hK; intro b w hK) | ((with_reducible change wpList _ _ _ (Oper.mk _ (Op.build _ _) _ _ _ _ :: _) _ _); first | (refine KL_build0 (by rfl) _ rfl ?_) | (refine KL_build1 (by rfl) _ _ _ rfl _ (by conv => lhs; whnf) ?_) | (refine KL_build2 (by rfl) _ _ _ _ _ rfl _ (by conv => lhs; whnf) _ (by conv => lhs; whnf) ?_) | (refine KL_build3 (by rfl) _ _ _ _ _ _ _ rfl _ (by conv => lhs; whnf) _ (by conv => lhs; whnf) _ (by conv => lhs; whnf) ?_) | (refine KL_build4 (by rfl) _ _ _ _ _ _ _ _ _ rfl _ (by conv => lhs; whnf) _ (by conv => lhs; whnf) _ (by conv => lhs; whnf) _ (by conv => lhs; whnf) ?_) | (refine KL_build5 (by rfl) _ _ _ _ _ _ _ _ _ _ _ rfl _ (by conv => lhs; whnf) _ (by conv => lhs; whnf) _ (by conv => lhs; whnf) _ (by conv => lhs; whnf) _ (by conv => lhs; whnf) ?_)) | ((with_reducible change wpList _ _ _ (Oper.mk _ (Op.binOp _ _ _ _ _) _ _ _ _ :: _) _ _); refine KL_cmp (by rfl) _ _ _ _ _ rfl _ _ rfl rfl ?_) | ((with_reducible change wpList _ _ _ (Oper.mk _ (Op.call _) _ _ _ _ :: _) _ _); refine KL_copy hK (by rfl) _ _ _ _ rfl _ _ _ _ _ _ _ _ rfl rfl _ _ (by first | exact Nat.min_eq_left (by first | decide | omega) | exact Nat.min_eq_right (by first | decide | omega)) (by first | exact Nat.mul_one _ | (conv => lhs; simp only [Nat.reduceMul])) ?_; clear hK; intro w hK) | ((with_reducible change wpList _ _ _ (Oper.mk _ (Op.index _ _ _) _ _ _ _ :: _) _ _); refine KL_index (by rfl) _ _ _ rfl _ rfl _ rfl _ (by conv => lhs; simp only [Int.reduceToNat, Int.toNat_natCast]) (by first | decide | omega) (by first | decide | omega) ?_) | ((with_reducible change wpList _ _ _ (Oper.mk _ (Op.sliceToArrayPointer _ _) _ _ _ _ :: _) _ _); refine KL_arr (by rfl) _ _ rfl _ _ _ rfl (by first | decide | omega) ?_)) | (go_at_call 12; (with_reducible refine (awake_c _).mono ?_); rintro e w1 ⟨rfl, hb⟩; replace hK := hK.call hb; clear hb))
        all_goals
          go_ret
          exact ⟨rfl, hK.below⟩
      have q1 : (j : Int) < ms.length := by omega
      by_cases h200 : j < 200
      rotate_left
      · have q2 : ¬ (j : Int) < 200 := by omega
        go_wp2_with (first | ((with_reducible change wpList _ _ _ (_ :: _) _ _); first | ((with_reducible change wpList _ _ _ (Oper.mk _ (Op.load _ _) _ _ _ _ :: _) _ _); first | (refine KL_load1 hK (by rfl) _ _ rfl _ _ rfl ?_) | (refine KL_load hK (by rfl) _ _ rfl _ _ rfl ?_)) | ((with_reducible change wpList _ _ _ (Oper.mk _ (Op.store _ _ _) _ _ _ _ :: _) _ _); first | (refine KL_store1 hK (by rfl) _ _ _ rfl _ _ rfl _ (by conv => lhs; whnf) (by rfl) ?_; clear hK; intro w hK) | (refine KL_store hK (by rfl) _ _ _ rfl _ _ rfl _ rfl ?_; clear hK; intro w hK)) | ((with_reducible change wpList _ _ _ (Oper.mk _ (Op.alloc _) _ _ _ _ :: _) _ _); refine KL_alloc hK (by rfl) _ rfl ?_; clear hK; intro b w hK) | ((with_reducible change wpList _ _ _ (Oper.mk _ (Op.box _ _) _ _ _ _ :: _) _ _); refine KL_box hK (by rfl) _ _ rfl _ (by conv => lhs; whnf) ?_; clear hK; intro b w hK) | ((with_reducible change wpList _ _ _ (Oper.mk _ (Op.build _ _) _ _ _ _ :: _) _ _); first | (refine KL_build0 (by rfl) _ rfl ?_) | (refine KL_build1 (by rfl) _ _ _ rfl _ (by conv => lhs; whnf) ?_) | (refine KL_build2 (by rfl) _ _ _ _ _ rfl _ (by conv => lhs; whnf) _ (by conv => lhs; whnf) ?_) | (refine KL_build3 (by rfl) _ _ _ _ _ _ _ rfl _ (by conv => lhs; whnf) _ (by conv => lhs; whnf) _ (by conv => lhs; whnf) ?_) | (refine KL_build4 (by rfl) _ _ _ _ _ _ _ _ _ rfl _ (by conv => lhs; whnf) _ (by conv => lhs; whnf) _ (by conv => lhs; whnf) _ (by conv => lhs; whnf) ?_) | (refine KL_build5 (by rfl) _ _ _ _ _ _ _ _ _ _ _ rfl _ (by conv => lhs; whnf) _ (by conv => lhs; whnf) _ (by conv => lhs; whnf) _ (by conv => lhs; whnf) _ (by conv => lhs; whnf) ?_)) | ((with_reducible change wpList _ _ _ (Oper.mk _ (Op.binOp _ _ _ _ _) _ _ _ _ :: _) _ _); refine KL_cmp (by rfl) _ _ _ _ _ rfl _ _ rfl rfl ?_) | ((with_reducible change wpList _ _ _ (Oper.mk _ (Op.call _) _ _ _ _ :: _) _ _); refine KL_copy hK (by rfl) _ _ _ _ rfl _ _ _ _ _ _ _ _ rfl rfl _ _ (by first | exact Nat.min_eq_left (by first | decide | omega) | exact Nat.min_eq_right (by first | decide | omega)) (by first | exact Nat.mul_one _ | (conv => lhs; simp only [Nat.reduceMul])) ?_; clear hK; intro w hK) | ((with_reducible change wpList _ _ _ (Oper.mk _ (Op.index _ _ _) _ _ _ _ :: _) _ _); refine KL_index (by rfl) _ _ _ rfl _ rfl _ rfl _ (by conv => lhs; simp only [Int.reduceToNat, Int.toNat_natCast]) (by first | decide | omega) (by first | decide | omega) ?_) | ((with_reducible change wpList _ _ _ (Oper.mk _ (Op.sliceToArrayPointer _ _) _ _ _ _ :: _) _ _); refine KL_arr (by rfl) _ _ rfl _ _ _ rfl (by first | decide | omega) ?_)) | (go_at_call 12; (with_reducible refine (awake_c _).mono ?_); rintro e w1 ⟨rfl, hb⟩; replace hK := hK.call hb; clear hb))
        go_ret
        exact ⟨rfl, hK.below⟩
      have q2 : (j : Int) < 200 := by omega
      obtain ⟨g, o, rfl, hOld⟩ := HM.out (by omega)
      obtain ⟨dd, hdd⟩ : ∃ dd, dd = ms[j] := ⟨_, rfl⟩
      have hOd : Old Nil w0 g (o + j * 81) (rD dd) := hdd ▸ hOld.sub (rows_part rD_len ms hlt)
      have hOo : Old Nil w0 g (o + j * 81) [.int .i64 dd.op] := by have := hOd.sub (k := 0) (n := 1) rfl; exact this
      have hOe : Old Nil w0 g (o + j * 81 + 1) (U dd.e.b) := hOd.sub (k := 1) (n := 80) (List.take_of_length_le (by show (U dd.e.b).length ≤ 80; rw [U_length, Ent.len]; exact Nat.le_refl _))
      have hOk := old_key hOe
      obtain ⟨e, he⟩ : ∃ e, e = dd.e := ⟨_, rfl⟩
      rw [← he] at hOe hOk
      obtain ⟨z, hz⟩ : ∃ z, dd.op % 5 = z := ⟨_, rfl⟩
      have hpk : ∀ w, Calls Try.prog 21 #[.int .i64 dd.op, .int .i64 5] w fun r w' => r = .returned (.int .i64 z) ∧ w = w' := fun w => by
        refine (pick_c dd.op 5 w (by omega) (by omega) dd.hop).mono ?_
        rintro r w' ⟨rfl, rfl⟩
        exact ⟨by rw [hz], rfl⟩
      have HPK := Lib.hid hpk
      have HSIM := Lib.hid hsim
      have HPERM := Lib.hid hperm
      have hlr := hperm.length_eq
      have hlr2 : rs.length ≤ 400 := by omega
      clear hpk hsim hperm hlr hOd hdd he hz
      by_cases z0 : z = 0
      · subst z0
        go_wp2_with (first | ((with_reducible change wpList _ _ _ (Oper.mk _ (Op.load _ _) _ _ _ _ :: _) _ _); refine KL_loadC (by rfl) _ _ rfl _ _ rfl (rangeAt_one (hOo.see hK)) ?_) | ((with_reducible change wpList _ _ _ (Oper.mk _ (Op.load _ _) _ _ _ _ :: _) _ _); refine KL_loadR (by rfl) _ _ rfl _ _ rfl (hOe.see hK) (by rw [U_length, Ent.len]) ?_) | (go_at_call 21; (with_reducible refine (HPK.out _).mono ?_); rintro r w1 ⟨rfl, rfl⟩) | (go_at_call 22; refine (Set_y e hTr (by omega) rfl (_ :: _ :: Mo) hK).mono ?_; rintro r w1 ⟨rfl, Mt', hTr', hK'⟩; clear hK; have hK := hK'; clear hK'; clear hTr; have hTr := hTr'; clear hTr'; simp only [List.cons_append, List.nil_append] at hK) | (go_at_call 23; refine (lset_c e (Sl.rd hSo (Kn.subs (L' := Mo) hK).blk) (by omega)).mono ?_; rintro r w1 ⟨v', M', rfl, hS', hK'⟩; replace hK := hK.more hK'; clear hK') | ((with_reducible change wpList _ _ _ (_ :: _) _ _); first | ((with_reducible change wpList _ _ _ (Oper.mk _ (Op.load _ _) _ _ _ _ :: _) _ _); first | (refine KL_load1 hK (by rfl) _ _ rfl _ _ rfl ?_) | (refine KL_load hK (by rfl) _ _ rfl _ _ rfl ?_)) | ((with_reducible change wpList _ _ _ (Oper.mk _ (Op.store _ _ _) _ _ _ _ :: _) _ _); first | (refine KL_store1 hK (by rfl) _ _ _ rfl _ _ rfl _ (by conv => lhs; whnf) (by rfl) ?_; clear hK; intro w hK) | (refine KL_store hK (by rfl) _ _ _ rfl _ _ rfl _ rfl ?_; clear hK; intro w hK)) | ((with_reducible change wpList _ _ _ (Oper.mk _ (Op.alloc _) _ _ _ _ :: _) _ _); refine KL_alloc hK (by rfl) _ rfl ?_; clear hK; intro b w hK) | ((with_reducible change wpList _ _ _ (Oper.mk _ (Op.box _ _) _ _ _ _ :: _) _ _); refine KL_box hK (by rfl) _ _ rfl _ (by conv => lhs; whnf) ?_; clear hK; intro b w hK) | ((with_reducible change wpList _ _ _ (Oper.mk _ (Op.build _ _) _ _ _ _ :: _) _ _); first | (refine KL_build0 (by rfl) _ rfl ?_) | (refine KL_build1 (by rfl) _ _ _ rfl _ (by conv => lhs; whnf) ?_) | (refine KL_build2 (by rfl) _ _ _ _ _ rfl _ (by conv => lhs; whnf) _ (by conv => lhs; whnf) ?_) | (refine KL_build3 (by rfl) _ _ _ _ _ _ _ rfl _ (by conv => lhs; whnf) _ (by conv => lhs; whnf) _ (by conv => lhs; whnf) ?_) | (refine KL_build4 (by rfl) _ _ _ _ _ _ _ _ _ rfl _ (by conv => lhs; whnf) _ (by conv => lhs; whnf) _ (by conv => lhs; whnf) _ (by conv => lhs; whnf) ?_) | (refine KL_build5 (by rfl) _ _ _ _ _ _ _ _ _ _ _ rfl _ (by conv => lhs; whnf) _ (by conv => lhs; whnf) _ (by conv => lhs; whnf) _ (by conv => lhs; whnf) _ (by conv => lhs; whnf) ?_)) | ((with_reducible change wpList _ _ _ (Oper.mk _ (Op.binOp _ _ _ _ _) _ _ _ _ :: _) _ _); refine KL_cmp (by rfl) _ _ _ _ _ rfl _ _ rfl rfl ?_) | ((with_reducible change wpList _ _ _ (Oper.mk _ (Op.call _) _ _ _ _ :: _) _ _); refine KL_copy hK (by rfl) _ _ _ _ rfl _ _ _ _ _ _ _ _ rfl rfl _ _ (by first | exact Nat.min_eq_left (by first | decide | omega) | exact Nat.min_eq_right (by first | decide | omega)) (by first | exact Nat.mul_one _ | (conv => lhs; simp only [Nat.reduceMul])) ?_; clear hK; intro w hK) | ((with_reducible change wpList _ _ _ (Oper.mk _ (Op.index _ _ _) _ _ _ _ :: _) _ _); refine KL_index (by rfl) _ _ _ rfl _ rfl _ rfl _ (by conv => lhs; simp only [Int.reduceToNat, Int.toNat_natCast]) (by first | decide | omega) (by first | decide | omega) ?_) | ((with_reducible change wpList _ _ _ (Oper.mk _ (Op.sliceToArrayPointer _ _) _ _ _ _ :: _) _ _); refine KL_arr (by rfl) _ _ rfl _ _ _ rfl (by first | decide | omega) ?_)))
        go_roundw
        case rel => exact ⟨j + 1, insE es e, setR rs e, Mt', M', f', kl, wi, t, hlt, h200, rfl, hS', ins_perm HPERM.out e, hTr, by have := insE_le es e; omega, HSIM.out, (Kn.mv hK Mo (fun f => by simp only [wt_append, wt_cons, wt_nil]; omega))⟩
        case measure => simp [intOf]; omega
      by_cases z1 : z = 1
      · subst z1
        clear z0
        go_wp2_with (first | ((with_reducible change wpList _ _ _ (Oper.mk _ (Op.load _ _) _ _ _ _ :: _) _ _); refine KL_loadC (by rfl) _ _ rfl _ _ rfl (rangeAt_one (hOo.see hK)) ?_) | ((with_reducible change wpList _ _ _ (Oper.mk _ (Op.load _ _) _ _ _ _ :: _) _ _); refine KL_loadR (by rfl) _ _ rfl _ _ rfl (hOk.see hK) (by rw [U_length, Ky.len]) ?_) | (go_at_call 21; (with_reducible refine (HPK.out _).mono ?_); rintro r w1 ⟨rfl, rfl⟩) | (go_at_call 24; refine (Del_y e.ky hTr (by omega) (_ :: _ :: Mo) hK).mono ?_; rintro r w1 ⟨rfl, Mt', hTr', hK'⟩; clear hK; have hK := hK'; clear hK'; clear hTr; have hTr := hTr'; clear hTr'; simp only [List.cons_append, List.nil_append] at hK) | (go_at_call 25; refine (ldel_c e.ky (Sl.rd hSo (Kn.subs (L' := Mo) hK).blk) (by omega)).mono ?_; rintro r w1 ⟨v', M', rfl, hS', hK'⟩; replace hK := hK.more hK'; clear hK') | ((with_reducible change wpList _ _ _ (_ :: _) _ _); first | ((with_reducible change wpList _ _ _ (Oper.mk _ (Op.load _ _) _ _ _ _ :: _) _ _); first | (refine KL_load1 hK (by rfl) _ _ rfl _ _ rfl ?_) | (refine KL_load hK (by rfl) _ _ rfl _ _ rfl ?_)) | ((with_reducible change wpList _ _ _ (Oper.mk _ (Op.store _ _ _) _ _ _ _ :: _) _ _); first | (refine KL_store1 hK (by rfl) _ _ _ rfl _ _ rfl _ (by conv => lhs; whnf) (by rfl) ?_; clear hK; intro w hK) | (refine KL_store hK (by rfl) _ _ _ rfl _ _ rfl _ rfl ?_; clear hK; intro w hK)) | ((with_reducible change wpList _ _ _ (Oper.mk _ (Op.alloc _) _ _ _ _ :: _) _ _); refine KL_alloc hK (by rfl) _ rfl ?_; clear hK; intro b w hK) | ((with_reducible change wpList _ _ _ (Oper.mk _ (Op.box _ _) _ _ _ _ :: _) _ _); refine KL_box hK (by rfl) _ _ rfl _ (by conv => lhs; whnf) ?_; clear hK; intro b w hK) | ((with_reducible change wpList _ _ _ (Oper.mk _ (Op.build _ _) _ _ _ _ :: _) _ _); first | (refine KL_build0 (by rfl) _ rfl ?_) | (refine KL_build1 (by rfl) _ _ _ rfl _ (by conv => lhs; whnf) ?_) | (refine KL_build2 (by rfl) _ _ _ _ _ rfl _ (by conv => lhs; whnf) _ (by conv => lhs; whnf) ?_) | (refine KL_build3 (by rfl) _ _ _ _ _ _ _ rfl _ (by conv => lhs; whnf) _ (by conv => lhs; whnf) _ (by conv => lhs; whnf) ?_) | (refine KL_build4 (by rfl) _ _ _ _ _ _ _ _ _ rfl _ (by conv => lhs; whnf) _ (by conv => lhs; whnf) _ (by conv => lhs; whnf) _ (by conv => lhs; whnf) ?_) | (refine KL_build5 (by rfl) _ _ _ _ _ _ _ _ _ _ _ rfl _ (by conv => lhs; whnf) _ (by conv => lhs; whnf) _ (by conv => lhs; whnf) _ (by conv => lhs; whnf) _ (by conv => lhs; whnf) ?_)) | ((with_reducible change wpList _ _ _ (Oper.mk _ (Op.binOp _ _ _ _ _) _ _ _ _ :: _) _ _); refine KL_cmp (by rfl) _ _ _ _ _ rfl _ _ rfl rfl ?_) | ((with_reducible change wpList _ _ _ (Oper.mk _ (Op.call _) _ _ _ _ :: _) _ _); refine KL_copy hK (by rfl) _ _ _ _ rfl _ _ _ _ _ _ _ _ rfl rfl _ _ (by first | exact Nat.min_eq_left (by first | decide | omega) | exact Nat.min_eq_right (by first | decide | omega)) (by first | exact Nat.mul_one _ | (conv => lhs; simp only [Nat.reduceMul])) ?_; clear hK; intro w hK) | ((with_reducible change wpList _ _ _ (Oper.mk _ (Op.index _ _ _) _ _ _ _ :: _) _ _); refine KL_index (by rfl) _ _ _ rfl _ rfl _ rfl _ (by conv => lhs; simp only [Int.reduceToNat, Int.toNat_natCast]) (by first | decide | omega) (by first | decide | omega) ?_) | ((with_reducible change wpList _ _ _ (Oper.mk _ (Op.sliceToArrayPointer _ _) _ _ _ _ :: _) _ _); refine KL_arr (by rfl) _ _ rfl _ _ _ rfl (by first | decide | omega) ?_)))
        go_roundw
        case rel => exact ⟨j + 1, delE es e.ky.n, delE rs e.ky.n, Mt', M', f', kl, wi, t, hlt, h200, rfl, hS', del_perm HPERM.out _, hTr, by have := delE_len_le es e.ky.n; omega, HSIM.out, (Kn.mv hK Mo (fun f => by simp only [wt_append, wt_cons, wt_nil]; omega))⟩
        case measure => simp [intOf]; omega
      have ha := hTr.asc
      cases hx : nextE es f' kg wi with
      | none =>
        have hrn : ∀ (w : World) (x y : Nat × TypeId × List Value), Kn Nil w0 w (x :: y :: (d, 53, rrow kf kg kl t) :: (Mo ++ (Mt ++ []))) → Calls Try.prog 26 #[.pointer (some ⟨d, 0, none⟩), u10] w fun r w' => r = .returned (.tuple #[.agg (U (Z 80)).toArray, .bool false]) ∧ Kn Nil w0 w' (x :: y :: (d, 53, rrow kf kg kl t) :: (Mo ++ (Mt ++ []))) := fun w x y h => by
          have h1 : Kn Nil w0 w ((d, 53, rrow kf kg kl t) :: (Mo ++ (x :: y :: (Mt ++ [])))) := (Kn.mv h [] (fun f => by simp only [wt_append, wt_cons, wt_nil]; omega))
          refine (rNext_c h1 hSo (by omega)).mono ?_
          rintro r w' ⟨q, hm, rfl, h'⟩
          obtain rfl : q = none := (sim_next ha HPERM.out HSIM.out hm).trans hx
          have h2 : Kn Nil w0 w' ((d, 53, rrow kf kg kl t) :: (Mo ++ (x :: y :: (Mt ++ [])))) := h'
          exact ⟨rfl, (Kn.mv h2 [] (fun f => by simp only [wt_append, wt_cons, wt_nil]; omega))⟩
        have HRN := Lib.hid hrn
        have hnx : ∀ (w : World), Kn Nil w0 w ((c, 33, curRow (aftV tb) f' kg wi) :: (d, 53, rrow kf kg kl t) :: (Mo ++ (Mt ++ []))) → Calls Try.prog 13 #[.pointer (some ⟨c, 0, none⟩)] w fun r w' => r = .returned (.tuple #[.agg (U (Z 80)).toArray, .bool false]) ∧ Kn Nil w0 w' ((c, 33, curRow (aftV tb) f' kg wi) :: (d, 53, rrow kf kg kl t) :: (Mo ++ (Mt ++ []))) := fun w h => next_none' hTr hx ((d, 53, rrow kf kg kl t) :: Mo) h
        have HNX := Lib.hid hnx
        have HT := Lib.hid hTr
        clear hrn hnx hx ha
        go_wp2_with (first | ((with_reducible change wpList _ _ _ (Oper.mk _ (Op.load _ _) _ _ _ _ :: _) _ _); refine KL_loadC (by rfl) _ _ rfl _ _ rfl (rangeAt_one (hOo.see hK)) ?_) | (go_at_call 21; (with_reducible refine (HPK.out _).mono ?_); rintro r w1 ⟨rfl, rfl⟩) | (go_at_call 13; refine (HNX.out _ hK).mono ?_; rintro r w1 ⟨rfl, hK'⟩; clear hK; have hK := hK'; clear hK') | (go_at_call 26; refine (HRN.out _ _ _ hK).mono ?_; rintro r w1 ⟨rfl, hK'⟩; clear hK; have hK := hK'; clear hK') | ((with_reducible change wpList _ _ _ (_ :: _) _ _); first | ((with_reducible change wpList _ _ _ (Oper.mk _ (Op.load _ _) _ _ _ _ :: _) _ _); first | (refine KL_load1 hK (by rfl) _ _ rfl _ _ rfl ?_) | (refine KL_load hK (by rfl) _ _ rfl _ _ rfl ?_)) | ((with_reducible change wpList _ _ _ (Oper.mk _ (Op.store _ _ _) _ _ _ _ :: _) _ _); first | (refine KL_store1 hK (by rfl) _ _ _ rfl _ _ rfl _ (by conv => lhs; whnf) (by rfl) ?_; clear hK; intro w hK) | (refine KL_store hK (by rfl) _ _ _ rfl _ _ rfl _ rfl ?_; clear hK; intro w hK)) | ((with_reducible change wpList _ _ _ (Oper.mk _ (Op.alloc _) _ _ _ _ :: _) _ _); refine KL_alloc hK (by rfl) _ rfl ?_; clear hK; intro b w hK) | ((with_reducible change wpList _ _ _ (Oper.mk _ (Op.box _ _) _ _ _ _ :: _) _ _); refine KL_box hK (by rfl) _ _ rfl _ (by conv => lhs; whnf) ?_; clear hK; intro b w hK) | ((with_reducible change wpList _ _ _ (Oper.mk _ (Op.build _ _) _ _ _ _ :: _) _ _); first | (refine KL_build0 (by rfl) _ rfl ?_) | (refine KL_build1 (by rfl) _ _ _ rfl _ (by conv => lhs; whnf) ?_) | (refine KL_build2 (by rfl) _ _ _ _ _ rfl _ (by conv => lhs; whnf) _ (by conv => lhs; whnf) ?_) | (refine KL_build3 (by rfl) _ _ _ _ _ _ _ rfl _ (by conv => lhs; whnf) _ (by conv => lhs; whnf) _ (by conv => lhs; whnf) ?_) | (refine KL_build4 (by rfl) _ _ _ _ _ _ _ _ _ rfl _ (by conv => lhs; whnf) _ (by conv => lhs; whnf) _ (by conv => lhs; whnf) _ (by conv => lhs; whnf) ?_) | (refine KL_build5 (by rfl) _ _ _ _ _ _ _ _ _ _ _ rfl _ (by conv => lhs; whnf) _ (by conv => lhs; whnf) _ (by conv => lhs; whnf) _ (by conv => lhs; whnf) _ (by conv => lhs; whnf) ?_)) | ((with_reducible change wpList _ _ _ (Oper.mk _ (Op.binOp _ _ _ _ _) _ _ _ _ :: _) _ _); refine KL_cmp (by rfl) _ _ _ _ _ rfl _ _ rfl rfl ?_) | ((with_reducible change wpList _ _ _ (Oper.mk _ (Op.call _) _ _ _ _ :: _) _ _); refine KL_copy hK (by rfl) _ _ _ _ rfl _ _ _ _ _ _ _ _ rfl rfl _ _ (by first | exact Nat.min_eq_left (by first | decide | omega) | exact Nat.min_eq_right (by first | decide | omega)) (by first | exact Nat.mul_one _ | (conv => lhs; simp only [Nat.reduceMul])) ?_; clear hK; intro w hK) | ((with_reducible change wpList _ _ _ (Oper.mk _ (Op.index _ _ _) _ _ _ _ :: _) _ _); refine KL_index (by rfl) _ _ _ rfl _ rfl _ rfl _ (by conv => lhs; simp only [Int.reduceToNat, Int.toNat_natCast]) (by first | decide | omega) (by first | decide | omega) ?_) | ((with_reducible change wpList _ _ _ (Oper.mk _ (Op.sliceToArrayPointer _ _) _ _ _ _ :: _) _ _); refine KL_arr (by rfl) _ _ rfl _ _ _ rfl (by first | decide | omega) ?_)))
        go_roundw
        case rel => exact ⟨j + 1, es, rs, Mt, Mo, f', kl, wi, t, hlt, h200, rfl, hSo, HPERM.out, HT.out, by omega, HSIM.out, (hK.tl rfl).tl rfl⟩
        case measure => simp [intOf]; omega
      | some e2 =>
        have hrn : ∀ (w : World) (x y : Nat × TypeId × List Value), Kn Nil w0 w (x :: y :: (d, 53, rrow kf kg kl t) :: (Mo ++ (Mt ++ []))) → Calls Try.prog 26 #[.pointer (some ⟨d, 0, none⟩), u10] w fun r w' => r = .returned (.tuple #[.agg (U e2.b).toArray, .bool true]) ∧ Kn Nil w0 w' (x :: y :: (d, 53, rrow kf kg e2.ky true) :: (Mo ++ (Mt ++ []))) := fun w x y h => by
          have h1 : Kn Nil w0 w ((d, 53, rrow kf kg kl t) :: (Mo ++ (x :: y :: (Mt ++ [])))) := (Kn.mv h [] (fun f => by simp only [wt_append, wt_cons, wt_nil]; omega))
          refine (rNext_c h1 hSo (by omega)).mono ?_
          rintro r w' ⟨q, hm, rfl, h'⟩
          obtain rfl : q = some e2 := (sim_next ha HPERM.out HSIM.out hm).trans hx
          have h2 : Kn Nil w0 w' ((d, 53, rrow kf kg e2.ky true) :: (Mo ++ (x :: y :: (Mt ++ [])))) := h'
          exact ⟨rfl, (Kn.mv h2 [] (fun f => by simp only [wt_append, wt_cons, wt_nil]; omega))⟩
        have HRN := Lib.hid hrn
        have hnx : ∀ (w : World), Kn Nil w0 w ((c, 33, curRow (aftV tb) f' kg wi) :: (d, 53, rrow kf kg kl t) :: (Mo ++ (Mt ++ []))) → Calls Try.prog 13 #[.pointer (some ⟨c, 0, none⟩)] w fun r w' => r = .returned (.tuple #[.agg (U e2.b).toArray, .bool true]) ∧ Kn Nil w0 w' ((c, 33, curRow (aftV tb) e2.ky kg false) :: (d, 53, rrow kf kg kl t) :: (Mo ++ (Mt ++ []))) := fun w h => next_some' hTr hx ((d, 53, rrow kf kg kl t) :: Mo) h
        have HNX := Lib.hid hnx
        have HT := Lib.hid hTr
        have HX := Lib.hid hx
        clear hrn hnx hx ha
        go_wp2_with (first | ((with_reducible change wpList _ _ _ (Oper.mk _ (Op.load _ _) _ _ _ _ :: _) _ _); refine KL_loadC (by rfl) _ _ rfl _ _ rfl (rangeAt_one (hOo.see hK)) ?_) | (go_at_call 21; (with_reducible refine (HPK.out _).mono ?_); rintro r w1 ⟨rfl, rfl⟩) | (go_at_call 13; refine (HNX.out _ hK).mono ?_; rintro r w1 ⟨rfl, hK'⟩; clear hK; have hK := hK'; clear hK') | (go_at_call 26; refine (HRN.out _ _ _ hK).mono ?_; rintro r w1 ⟨rfl, hK'⟩; clear hK; have hK := hK'; clear hK') | ((with_reducible change wpList _ _ _ (_ :: _) _ _); first | ((with_reducible change wpList _ _ _ (Oper.mk _ (Op.load _ _) _ _ _ _ :: _) _ _); first | (refine KL_load1 hK (by rfl) _ _ rfl _ _ rfl ?_) | (refine KL_load hK (by rfl) _ _ rfl _ _ rfl ?_)) | ((with_reducible change wpList _ _ _ (Oper.mk _ (Op.store _ _ _) _ _ _ _ :: _) _ _); first | (refine KL_store1 hK (by rfl) _ _ _ rfl _ _ rfl _ (by conv => lhs; whnf) (by rfl) ?_; clear hK; intro w hK) | (refine KL_store hK (by rfl) _ _ _ rfl _ _ rfl _ rfl ?_; clear hK; intro w hK)) | ((with_reducible change wpList _ _ _ (Oper.mk _ (Op.alloc _) _ _ _ _ :: _) _ _); refine KL_alloc hK (by rfl) _ rfl ?_; clear hK; intro b w hK) | ((with_reducible change wpList _ _ _ (Oper.mk _ (Op.box _ _) _ _ _ _ :: _) _ _); refine KL_box hK (by rfl) _ _ rfl _ (by conv => lhs; whnf) ?_; clear hK; intro b w hK) | ((with_reducible change wpList _ _ _ (Oper.mk _ (Op.build _ _) _ _ _ _ :: _) _ _); first | (refine KL_build0 (by rfl) _ rfl ?_) | (refine KL_build1 (by rfl) _ _ _ rfl _ (by conv => lhs; whnf) ?_) | (refine KL_build2 (by rfl) _ _ _ _ _ rfl _ (by conv => lhs; whnf) _ (by conv => lhs; whnf) ?_) | (refine KL_build3 (by rfl) _ _ _ _ _ _ _ rfl _ (by conv => lhs; whnf) _ (by conv => lhs; whnf) _ (by conv => lhs; whnf) ?_) | (refine KL_build4 (by rfl) _ _ _ _ _ _ _ _ _ rfl _ (by conv => lhs; whnf) _ (by conv => lhs; whnf) _ (by conv => lhs; whnf) _ (by conv => lhs; whnf) ?_) | (refine KL_build5 (by rfl) _ _ _ _ _ _ _ _ _ _ _ rfl _ (by conv => lhs; whnf) _ (by conv => lhs; whnf) _ (by conv => lhs; whnf) _ (by conv => lhs; whnf) _ (by conv => lhs; whnf) ?_)) | ((with_reducible change wpList _ _ _ (Oper.mk _ (Op.binOp _ _ _ _ _) _ _ _ _ :: _) _ _); refine KL_cmp (by rfl) _ _ _ _ _ rfl _ _ rfl rfl ?_) | ((with_reducible change wpList _ _ _ (Oper.mk _ (Op.call _) _ _ _ _ :: _) _ _); refine KL_copy hK (by rfl) _ _ _ _ rfl _ _ _ _ _ _ _ _ rfl rfl _ _ (by first | exact Nat.min_eq_left (by first | decide | omega) | exact Nat.min_eq_right (by first | decide | omega)) (by first | exact Nat.mul_one _ | (conv => lhs; simp only [Nat.reduceMul])) ?_; clear hK; intro w hK) | ((with_reducible change wpList _ _ _ (Oper.mk _ (Op.index _ _ _) _ _ _ _ :: _) _ _); refine KL_index (by rfl) _ _ _ rfl _ rfl _ rfl _ (by conv => lhs; simp only [Int.reduceToNat, Int.toNat_natCast]) (by first | decide | omega) (by first | decide | omega) ?_) | ((with_reducible change wpList _ _ _ (Oper.mk _ (Op.sliceToArrayPointer _ _) _ _ _ _ :: _) _ _); refine KL_arr (by rfl) _ _ rfl _ _ _ rfl (by first | decide | omega) ?_)))
        go_roundw
        case rel => exact ⟨j + 1, es, rs, Mt, Mo, e2.ky, e2.ky, false, true, hlt, h200, rfl, hSo, HPERM.out, HT.out, by omega, sim_some HSIM.out HX.out, (hK.tl rfl).tl rfl⟩
        case measure => simp [intOf]; omega
section
open Go.ChangeShapes
theorem i64_wf {z : Int} (h : (Lit.int .i64 z).wf = true) : IntKind.i64.wrap z = z := by
  have : IntKind.i64.min ≤ z ∧ z ≤ IntKind.i64.max := by simpa [Lit.wf] using h
  have h1 : (-9223372036854775808 : Int) ≤ z := this.1
  have h2 : z ≤ (9223372036854775807 : Int) := this.2
  rw [IntKind.wrap_i64]; omega
section
variable {H : Type} {enc : TypeId × Value → H} {w : World} {base : Nat} {spare : Nat → Bool} {held : Bool} {fuel : Nat} {cs : List Value} {x : DataW H × List MemPlace}
theorem do_trod (h : DataW.trod enc Try.prog w base spare held fuel 56 cs = some x) : ∃ d : DoT, cs = rD d := by
  obtain ⟨xs, n, _, _, hl, hxl, hel⟩ := DataW.trod_struct Try.underlying56 h
  have hl' : cs.length = 81 := hl.trans (by kernel_rfl)
  have h0 := hel 0 _ rfl
  have h1 := hel 1 _ rfl
  rw [List.getElem?_eq_getElem (by rw [hxl]; decide)] at h0 h1
  obtain ⟨z, hz, _, hw⟩ := DataW.trod_int Try.underlying3 h0
  obtain ⟨e, he⟩ := entry_trod h1
  refine ⟨⟨z, e, i64_wf hw⟩, ?_⟩
  show cs = [.int .i64 z] ++ rE e
  have e1 : Try.prog.cellsOf 3 = 1 := by kernel_rfl
  have e2 : Try.prog.cellsOf 28 = 80 := by kernel_rfl
  rw [← hz, ← he]
  show cs = (cs.drop 0).take (Try.prog.cellsOf 3) ++ (cs.drop 1).take (Try.prog.cellsOf 28)
  rw [e1, e2, List.drop_zero]
  have : (cs.drop 1).take 80 = cs.drop 1 := List.take_of_length_le (by rw [List.length_drop]; omega)
  rw [this, List.take_append_drop]
theorem rdx_of_rows {α : Type} {f : α → List Value} {xs : List α} {v : Value} (h : (v = .slice none 0 0 ∧ xs = []) ∨ ∃ a cap, v = .slice (some a) xs.length cap ∧ xs.length ≤ cap ∧ cap ≤ maxLen ∧ (0 < xs.length → ∃ g o, a = ⟨g, o, none⟩ ∧ g < w.heap.size ∧ w.rangeAt g o (rows f xs))) : RdX f w v xs := by
  rcases h with ⟨rfl, rfl⟩ | ⟨a, cap, rfl, hc, hm, hr⟩
  · exact ⟨none, 0, rfl, Nat.zero_le _, fun h => absurd h (Nat.lt_irrefl 0)⟩
  · refine ⟨some a, cap, rfl, by omega, fun h0 => ?_⟩
    obtain ⟨g, o, rfl, hg, hr⟩ := hr h0
    exact ⟨g, o, rfl, hg, id, hr⟩
theorem dos_trod {v : Value} (h : DataW.trod enc Try.prog w 0 spare held fuel 50 [v] = some x) : ∃ ms : List DoT, RdX rD w v ms := by
  obtain ⟨ms, h⟩ := rows_trod (f := rD) (z := 81) Try.underlying50 (by kernel_rfl) (by decide) rD_len (fun _ _ _ h => do_trod h) h
  exact ⟨ms, rdx_of_rows h⟩
end
end
end Go.Proofs.Ytpkhomfblilkhaa.E
