/- walk.All; law17.told; SameEntries; Pick walked. -/
import Derived.Test.YtpkhomfblilkhaaF22
namespace Go.Proofs.Ytpkhomfblilkhaa.E
set_option linter.all false
open Go Go.RowKit

/-! ### Entries in order, one behind the other -/
theorem find_first (es : List Ent) : es.find? (behind Ky.zero.n true) = es[0]? := by
  have hz : Ky.zero.n = 0 := by decide +kernel
  cases es with
  | nil => rfl
  | cons x l => rw [List.find?_cons_of_pos (by simp [behind, hz])]; rfl
theorem find_next : ∀ {es : List Ent}, Asc Ent.n es → ∀ {j : Nat} (h : j < es.length), es.find? (behind es[j].n false) = es[j + 1]?
  | [], _, _, h => by simp at h
  | x :: l, ha, 0, _ => by
    obtain ⟨h1, h2⟩ := List.pairwise_cons.1 ha
    rw [List.find?_cons_of_neg (by simp [behind])]
    cases l with
    | nil => rfl
    | cons y l => rw [List.find?_cons_of_pos (by simpa [behind] using h1 y (by simp))]; rfl
  | x :: l, ha, j + 1, h => by
    obtain ⟨h1, h2⟩ := List.pairwise_cons.1 ha
    have hj : j < l.length := by simpa using h
    have := h1 l[j] (List.getElem_mem hj)
    rw [List.find?_cons_of_neg (by simp [behind]; omega)]
    exact find_next h2 hj
/-- What a cursor tells, all of it. -/
def toldL (es : List Ent) (f g : Ky) (wi : Bool) : List Ent := es.filter (fun e => behind f.n wi e && decide (e.n < g.n))
theorem behind_up {k : Nat} {wi : Bool} {x y : Ent} (h : behind k wi x = true) (hxy : x.n < y.n) : behind k wi y = true := by
  cases wi <;> simp [behind] at h ⊢ <;> omega
theorem told_head {f g : Ky} {wi : Bool} : ∀ {es : List Ent}, Asc Ent.n es → nextE es f g wi = (toldL es f g wi).head?
  | [], _ => rfl
  | x :: l, ha => by
    obtain ⟨h1, h2⟩ := List.pairwise_cons.1 ha
    have ih := told_head (f := f) (g := g) (wi := wi) h2
    unfold nextE toldL at ih ⊢
    cases hb : behind f.n wi x
    · rw [List.find?_cons_of_neg (by rw [hb]; simp), List.filter_cons_of_neg (by rw [hb]; simp), ih]
    · rw [List.find?_cons_of_pos hb]
      by_cases hg : x.n < g.n
      · rw [List.filter_cons_of_pos (by rw [hb]; simpa using hg)]
        simp [hg]
      · rw [List.filter_cons_of_neg (by rw [hb]; simpa using hg), filter_none (fun y hy => by have := h1 y hy; simp; omega)]
        simp [hg]
theorem told_tail {f g : Ky} {wi : Bool} {e : Ent} {ts : List Ent} : ∀ {es : List Ent}, Asc Ent.n es → toldL es f g wi = e :: ts → toldL es e.ky g false = ts
  | [], _, h => by cases h
  | x :: l, ha, h => by
    obtain ⟨h1, h2⟩ := List.pairwise_cons.1 ha
    unfold toldL at h ⊢
    by_cases hx : (behind f.n wi x && decide (x.n < g.n)) = true
    · rw [List.filter_cons_of_pos (p := fun e => behind f.n wi e && decide (e.n < g.n)) hx] at h
      obtain ⟨rfl, rfl⟩ := List.cons.inj h
      rw [List.filter_cons_of_neg (by simp [behind, Ent.n])]
      refine List.filter_congr fun y hy => ?_
      have hxy := h1 y hy
      rw [Bool.and_eq_true] at hx
      rw [behind_up hx.1 hxy, show behind x.ky.n false y = true from decide_eq_true hxy]
    · rw [List.filter_cons_of_neg (p := fun e => behind f.n wi e && decide (e.n < g.n)) hx] at h
      have he : e ∈ l.filter (fun e => behind f.n wi e && decide (e.n < g.n)) := by rw [h]; simp
      have hel := (List.mem_filter.1 he).1
      have := h1 e hel
      rw [List.filter_cons_of_neg (by simp [behind]; intro h0; exact absurd h0 (by show ¬ e.n < x.n; omega))]
      exact told_tail h2 h
theorem Sl.val {e size n : Nat} {xs : List Value} {v : Value} {M : Mem} (h : Sl e size n xs v M) : ∃ a c, v = .slice a n c := by
  cases h with
  | nil hn hx => subst hn; exact ⟨_, _, rfl⟩
  | row g cap junk => exact ⟨_, _, rfl⟩
/-- A row is handed back, made beside what is known. -/
def SlR (F : Nat → Prop) (w0 : World) (es : List Ent) (L : Mem) : Ending → World → Prop := fun r w' => ∃ v' M', r = .returned v' ∧ Sl 28 80 es.length (rows rE es) v' M' ∧ Kn F w0 w' (M' ++ L)
set_option maxRecDepth 20000 in
set_option maxHeartbeats 1600000 in
theorem wAll_c {F : Nat → Prop} {w0 w : World} {L M : Mem} {b : Nat} {es : List Ent} (hK : Kn F w0 w (M ++ L)) (hT : Tree b es M) (hn : es.length ≤ 800000) : Calls Try.prog 15 #[.pointer (some ⟨b, 0, none⟩)] w (SlR F w0 es (M ++ L)) := by
  have ha := hT.asc
  have hA0 : ∀ w, Kn F w0 w (M ++ L) → Calls Try.prog 36 #[.pointer (some ⟨b, 0, none⟩), .agg (U (Z 40)).toArray, .bool true] w fun r w' => r = .returned (.tuple #[.agg (U ((es[0]?).getD Ent.zero).b).toArray, .bool (decide (0 < es.length))]) ∧ Kn F w0 w' (M ++ L) := fun w h => by
    refine (After_t Ky.zero true h hT).mono ?_
    rintro r w' ⟨rfl, h'⟩
    rw [find_first]
    refine ⟨?_, h'⟩
    cases es <;> rfl
  have hA : ∀ (j : Nat) (hj : j < es.length) (w : World) (x y z : Nat × TypeId × List Value) (N : Mem), Kn F w0 w (x :: (N ++ y :: z :: (M ++ L))) → Calls Try.prog 36 #[.pointer (some ⟨b, 0, none⟩), .agg (U es[j].ky.b).toArray, .bool false] w fun r w' => r = .returned (.tuple #[.agg (U ((es[j + 1]?).getD Ent.zero).b).toArray, .bool (decide (j + 1 < es.length))]) ∧ Kn F w0 w' (x :: (N ++ y :: z :: (M ++ L))) := fun j hj w x y z N h => by
    have h1 : Kn F w0 w (M ++ (x :: (N ++ y :: z :: L))) := (Kn.mv h [] (fun f => by simp only [wt_append, wt_cons, wt_nil]; omega))
    refine (After_t es[j].ky false h1 hT).mono ?_
    rintro r w' ⟨rfl, h'⟩
    rw [show es[j].ky.n = es[j].n from rfl, find_next ha hj]
    refine ⟨?_, (Kn.mv h' [] (fun f => by simp only [wt_append, wt_cons, wt_nil]; omega))⟩
    by_cases h2 : j + 1 < es.length
    · rw [List.getElem?_eq_getElem h2, decide_eq_true h2]; rfl
    · rw [List.getElem?_eq_none (by omega), decide_eq_false h2]; rfl
  have HA0 := Lib.hid hA0
  have HAA := Lib.hid hA
  clear hA0 hA ha hT
  go_enter Try.func15, Try.ntmps15
  go_wp2_with (first | ((with_reducible change wpList _ _ _ (_ :: _) _ _); first | ((with_reducible change wpList _ _ _ (Oper.mk _ (Op.load _ _) _ _ _ _ :: _) _ _); first | (refine KL_load1 hK (by rfl) _ _ rfl _ _ rfl ?_) | (refine KL_load hK (by rfl) _ _ rfl _ _ rfl ?_)) | ((with_reducible change wpList _ _ _ (Oper.mk _ (Op.store _ _ _) _ _ _ _ :: _) _ _); first | (refine KL_store1 hK (by rfl) _ _ _ rfl _ _ rfl _ (by conv => lhs; whnf) (by rfl) ?_; clear hK; intro w hK) | (refine KL_store hK (by rfl) _ _ _ rfl _ _ rfl _ rfl ?_; clear hK; intro w hK)) | ((with_reducible change wpList _ _ _ (Oper.mk _ (Op.alloc _) _ _ _ _ :: _) _ _); refine KL_alloc hK (by rfl) _ rfl ?_; clear hK; intro b w hK) | ((with_reducible change wpList _ _ _ (Oper.mk _ (Op.box _ _) _ _ _ _ :: _) _ _); refine KL_box hK (by rfl) _ _ rfl _ (by conv => lhs; whnf) ?_; clear hK; intro b w hK) | ((with_reducible change wpList _ _ _ (Oper.mk _ (Op.build _ _) _ _ _ _ :: _) _ _); first | (refine KL_build0 (by rfl) _ rfl ?_) | (refine KL_build1 (by rfl) _ _ _ rfl _ (by conv => lhs; whnf) ?_) | (refine KL_build2 (by rfl) _ _ _ _ _ rfl _ (by conv => lhs; whnf) _ (by conv => lhs; whnf) ?_) | (refine KL_build3 (by rfl) _ _ _ _ _ _ _ rfl _ (by conv => lhs; whnf) _ (by conv => lhs; whnf) _ (by conv => lhs; whnf) ?_) | (refine KL_build4 (by rfl) _ _ _ _ _ _ _ _ _ rfl _ (by conv => lhs; whnf) _ (by conv => lhs; whnf) _ (by conv => lhs; whnf) _ (by conv => lhs; whnf) ?_) | (refine KL_build5 (by rfl) _ _ _ _ _ _ _ _ _ _ _ rfl _ (by conv => lhs; whnf) _ (by conv => lhs; whnf) _ (by conv => lhs; whnf) _ (by conv => lhs; whnf) _ (by conv => lhs; whnf) ?_)) | ((with_reducible change wpList _ _ _ (Oper.mk _ (Op.binOp _ _ _ _ _) _ _ _ _ :: _) _ _); refine KL_cmp (by rfl) _ _ _ _ _ rfl _ _ rfl rfl ?_) | ((with_reducible change wpList _ _ _ (Oper.mk _ (Op.call _) _ _ _ _ :: _) _ _); refine KL_copy hK (by rfl) _ _ _ _ rfl _ _ _ _ _ _ _ _ rfl rfl _ _ (by first | exact Nat.min_eq_left (by first | decide | omega) | exact Nat.min_eq_right (by first | decide | omega)) (by first | exact Nat.mul_one _ | (conv => lhs; simp only [Nat.reduceMul])) ?_; clear hK; intro w hK) | ((with_reducible change wpList _ _ _ (Oper.mk _ (Op.index _ _ _) _ _ _ _ :: _) _ _); refine KL_index (by rfl) _ _ _ rfl _ rfl _ rfl _ (by conv => lhs; simp only [Int.reduceToNat, Int.toNat_natCast]) (by first | decide | omega) (by first | decide | omega) ?_) | ((with_reducible change wpList _ _ _ (Oper.mk _ (Op.sliceToArrayPointer _ _) _ _ _ _ :: _) _ _); refine KL_arr (by rfl) _ _ rfl _ _ _ rfl (by first | decide | omega) ?_)) | (go_at_call 36; refine (HA0.out _ hK).mono ?_; rintro r w1 ⟨rfl, hK'⟩; clear hK; have hK := hK'; clear hK'))
  obtain ⟨b0, rfl⟩ := hK.n0
  go_loopw [3, 4, 5] (fun ov ep iv wr => ∃ j : Nat, j ≤ es.length ∧ iv = .bool (decide (j < es.length)) ∧ ∃ be Mo, ep = .pointer (some ⟨be, 0, none⟩) ∧ Sl 28 80 (es.take j).length (rows rE (es.take j)) ov Mo ∧ Kn F w0 wr ((be, 28, U ((es[j]?).getD Ent.zero).b) :: (Mo ++ (M ++ L)))) (fun ov _ iv _ => match ov with | .slice _ n _ => es.length - n | _ => 0)
  case atStart => exact ⟨0, Nat.zero_le _, rfl, b0, [], rfl, .nil rfl rfl, hK⟩
  case round =>
    clear hK
    obtain ⟨j, hj, rfl, be, Mo, rfl, hSo, hK⟩ := hrel
    obtain ⟨a0, c0, rfl⟩ := hSo.val
    by_cases hlt : j < es.length
    · rw [List.getElem?_eq_getElem hlt] at hK
      rw [decide_eq_true hlt]
      obtain ⟨e, he⟩ : ∃ e, e = es[j] := ⟨_, rfl⟩
      have hA1 := HAA.out j hlt
      have htk : (es.take j).length = j := by rw [List.length_take]; omega
      have hsn : es.take (j + 1) = es.take j ++ [es[j]] := List.take_succ_eq_append_getElem hlt
      rw [← he] at hA1 hsn hK
      have HA := Lib.hid hA1
      have HS := Lib.hid hsn
      have HT := Lib.hid htk
      have hle : (es.take j).length ≤ 800000 := by omega
      rw [show (some e).getD Ent.zero = e from rfl] at hK
      clear hA1 hsn htk he
      go_wp2_with (first | ((with_reducible change wpList _ _ _ (_ :: _) _ _); first | ((with_reducible change wpList _ _ _ (Oper.mk _ (Op.load _ _) _ _ _ _ :: _) _ _); first | (refine KL_load1 hK (by rfl) _ _ rfl _ _ rfl ?_) | (refine KL_load hK (by rfl) _ _ rfl _ _ rfl ?_)) | ((with_reducible change wpList _ _ _ (Oper.mk _ (Op.store _ _ _) _ _ _ _ :: _) _ _); first | (refine KL_store1 hK (by rfl) _ _ _ rfl _ _ rfl _ (by conv => lhs; whnf) (by rfl) ?_; clear hK; intro w hK) | (refine KL_store hK (by rfl) _ _ _ rfl _ _ rfl _ rfl ?_; clear hK; intro w hK)) | ((with_reducible change wpList _ _ _ (Oper.mk _ (Op.alloc _) _ _ _ _ :: _) _ _); refine KL_alloc hK (by rfl) _ rfl ?_; clear hK; intro b w hK) | ((with_reducible change wpList _ _ _ (Oper.mk _ (Op.box _ _) _ _ _ _ :: _) _ _); refine KL_box hK (by rfl) _ _ rfl _ (by conv => lhs; whnf) ?_; clear hK; intro b w hK) | ((with_reducible change wpList _ _ _ (Oper.mk _ (Op.build _ _) _ _ _ _ :: _) _ _); first | (refine KL_build0 (by rfl) _ rfl ?_) | (refine KL_build1 (by rfl) _ _ _ rfl _ (by conv => lhs; whnf) ?_) | (refine KL_build2 (by rfl) _ _ _ _ _ rfl _ (by conv => lhs; whnf) _ (by conv => lhs; whnf) ?_) | (refine KL_build3 (by rfl) _ _ _ _ _ _ _ rfl _ (by conv => lhs; whnf) _ (by conv => lhs; whnf) _ (by conv => lhs; whnf) ?_) | (refine KL_build4 (by rfl) _ _ _ _ _ _ _ _ _ rfl _ (by conv => lhs; whnf) _ (by conv => lhs; whnf) _ (by conv => lhs; whnf) _ (by conv => lhs; whnf) ?_) | (refine KL_build5 (by rfl) _ _ _ _ _ _ _ _ _ _ _ rfl _ (by conv => lhs; whnf) _ (by conv => lhs; whnf) _ (by conv => lhs; whnf) _ (by conv => lhs; whnf) _ (by conv => lhs; whnf) ?_)) | ((with_reducible change wpList _ _ _ (Oper.mk _ (Op.binOp _ _ _ _ _) _ _ _ _ :: _) _ _); refine KL_cmp (by rfl) _ _ _ _ _ rfl _ _ rfl rfl ?_) | ((with_reducible change wpList _ _ _ (Oper.mk _ (Op.call _) _ _ _ _ :: _) _ _); refine KL_copy hK (by rfl) _ _ _ _ rfl _ _ _ _ _ _ _ _ rfl rfl _ _ (by first | exact Nat.min_eq_left (by first | decide | omega) | exact Nat.min_eq_right (by first | decide | omega)) (by first | exact Nat.mul_one _ | (conv => lhs; simp only [Nat.reduceMul])) ?_; clear hK; intro w hK) | ((with_reducible change wpList _ _ _ (Oper.mk _ (Op.index _ _ _) _ _ _ _ :: _) _ _); refine KL_index (by rfl) _ _ _ rfl _ rfl _ rfl _ (by conv => lhs; simp only [Int.reduceToNat, Int.toNat_natCast]) (by first | decide | omega) (by first | decide | omega) ?_) | ((with_reducible change wpList _ _ _ (Oper.mk _ (Op.sliceToArrayPointer _ _) _ _ _ _ :: _) _ _); refine KL_arr (by rfl) _ _ rfl _ _ _ rfl (by first | decide | omega) ?_)) | (((with_reducible change wpList _ _ _ (Oper.mk _ (Op.buildSlice _ _ _) _ _ _ _ :: _) _ _); first | (refine KL_bs1 hK (by rfl) _ _ _ rfl _ (by conv => lhs; whnf) ?_; clear hK; intro b w hK) | (refine KL_bs2 hK (by rfl) _ _ _ _ _ rfl _ _ (by conv => lhs; whnf) (by conv => lhs; whnf) ?_; clear hK; intro b w hK))) | ((with_reducible change wpList _ _ _ (Oper.mk _ (Op.call _) _ _ _ _ :: _) _ _); refine KL_appS (M := Mo) hK.up2 hSo (by rfl) _ _ _ _ rfl rfl rfl (one_src b e hK) (by omega) (by decide) ?_; clear hK; intro v' M' w hS' hK) | (go_at_call 36; refine (HA.out _ _ _ _ _ hK).mono ?_; rintro r w1 ⟨rfl, hK'⟩; clear hK; have hK := hK'; clear hK'))
      obtain ⟨a1, c1, rfl⟩ := hS'.val
      go_roundw
      case rel =>
        rw [rows_snoc, ← HS.out] at hS'
        exact ⟨j + 1, hlt, rfl, _, M', rfl, hS'.cg (by rw [HS.out, List.length_append]; rfl) rfl, hK.sub (.cons_cons _ (List.Sublist.append_left (.cons _ (.cons _ (.refl _))) _))⟩
      case measure =>
        have := HT.out
        show es.length - ((es.take j).length + 1) < es.length - (es.take j).length
        omega
    · obtain rfl : j = es.length := by omega
      rw [decide_eq_false hlt]
      go_wp2_with fail
      go_ret
      exact ⟨_, Mo, rfl, hSo.cg (by rw [List.take_length]) (by rw [List.take_length]), hK.tl rfl⟩
theorem told_le (es : List Ent) (f g : Ky) (wi : Bool) : (toldL es f g wi).length ≤ es.length := List.length_filter_le _ _
end Go.Proofs.Ytpkhomfblilkhaa.E
