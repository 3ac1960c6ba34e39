/- Rows of numbers, of deeds: handed in. -/
import Derived.Test.YtpkhomfblilkhaaN5
import Derived.Test.YtpkhomfblilkhaaF28
namespace Go.Proofs.Ytpkhomfblilkhaa.E
set_option linter.all false
open Go Go.RowKit
def RdY {α : Type} (f : α → List Value) (w : World) (v : Value) (xs : List α) : Prop := ∃ a c, v = .slice a xs.length c ∧ xs.length ≤ maxLen ∧ (0 < xs.length → ∃ g o, a = some ⟨g, o, none⟩ ∧ Old Nil w g o (rows f xs))
structure IT where
  n : Int
  hn : IntKind.i64.wrap n = n
def rI (i : IT) : List Value := [.int .i64 i.n]
theorem rI_len (i : IT) : (rI i).length = 1 := rfl
theorem rangeAt_1 {w : World} {g o : Nat} {v : Value} (h : w.rangeAt g o [v]) : w.cell? ⟨g, o, none⟩ = some v := h 0 v rfl
section
variable {P : Program} {ops : Array Oper} {rest : List Oper} {o : Oper} {a : Act} {w : World} {Q : Exit → Act → World → Prop} {K : Act → World → Prop}
theorem KL_loadD (hgd : Region.wanted o (yielded ops a.tmps) = true) (T : TypeId) (x : Operand) (ho : o.op = .load T x) (b off : Nat) (hx : a.eval x = .pointer (some ⟨b, off, none⟩)) {v : Value} (hc : w.cell? ⟨b, off, none⟩ = some v) [ht : TyOne P T]
    (h : wpList P ops Q rest (a.put o.dst v) w) : wpList P ops Q (o :: rest) a w :=
  wpList_want hgd fun _ hk => by
    obtain ⟨d, hu, hd⟩ := isOne_of ht
    unfold Oper.wp execOp
    simp only [ho, hx]
    simp [Instr.loadAt, Instr.sureAddr, loadVar, isAgg_of hu hd, hc]
    exact hk _ _ h
end
section
open Go.ChangeShapes
theorem i64_wfY {z : Int} (h : (Lit.int .i64 z).wf = true) : IntKind.i64.wrap z = z := by
  have : IntKind.i64.min ≤ z ∧ z ≤ IntKind.i64.max := by simpa [Lit.wf] using h
  have h1 : (-9223372036854775808 : Int) ≤ z := this.1
  have h2 : z ≤ (9223372036854775807 : Int) := this.2
  rw [IntKind.wrap_i64]; omega
section
variable {H : Type} {enc : TypeId × Value → H} {w : World} {base : Nat} {spare : Nat → Bool} {held : Bool} {fuel : Nat} {cs : List Value} {x : DataW H × List MemPlace}
theorem int_trod (h : DataW.trod enc Try.prog w base spare held fuel 3 cs = some x) : ∃ i : IT, cs = rI i := by
  obtain ⟨z, hz, _, hw⟩ := DataW.trod_int Try.underlying3 h
  exact ⟨⟨z, i64_wfY hw⟩, hz⟩
theorem rdy_of_rows {α : Type} {f : α → List Value} {xs : List α} {v : Value} (h : (v = .slice none 0 0 ∧ xs = []) ∨ ∃ a cap, v = .slice (some a) xs.length cap ∧ xs.length ≤ cap ∧ cap ≤ maxLen ∧ (0 < xs.length → ∃ g o, a = ⟨g, o, none⟩ ∧ g < w.heap.size ∧ w.rangeAt g o (rows f xs))) : RdY f w v xs := by
  rcases h with ⟨rfl, rfl⟩ | ⟨a, cap, rfl, hc, hm, hr⟩
  · exact ⟨none, 0, rfl, Nat.zero_le _, fun h => absurd h (Nat.lt_irrefl 0)⟩
  · refine ⟨some a, cap, rfl, by omega, fun h0 => ?_⟩
    obtain ⟨g, o, rfl, hg, hr⟩ := hr h0
    exact ⟨g, o, rfl, hg, id, hr⟩
theorem ints_trod {v : Value} (h : DataW.trod enc Try.prog w 0 spare held fuel 64 [v] = some x) : ∃ ms : List IT, RdY rI w v ms := by
  obtain ⟨ms, h⟩ := rows_trod (f := rI) (z := 1) Try.underlying64 (by kernel_rfl) (by decide) rI_len (fun _ _ _ h => int_trod h) h
  exact ⟨ms, rdy_of_rows h⟩
end
end
/-- The entries of a row of numbers. -/
def entsI (xs : List IT) : List Ent := xs.map fun i => entI i.n 0 ⟨by decide, by decide⟩
theorem mem_insE {l : List Ent} {e x : Ent} (h : x ∈ insE l e) : x = e ∨ x ∈ l := by
  unfold insE at h
  rcases List.mem_append.1 h with h | h
  · exact .inr (List.mem_filter.1 h).1
  · rcases List.mem_cons.1 h with h | h
    · exact .inl h
    · exact .inr (List.mem_filter.1 h).1
theorem mem_insAll : ∀ (l acc : List Ent) {x : Ent}, x ∈ l.foldl insE acc → x ∈ acc ∨ x ∈ l
  | [], _, _, h => .inl h
  | e :: l, acc, x, h => by
    rcases mem_insAll l (insE acc e) h with h | h
    · rcases mem_insE h with rfl | h
      · exact .inr (List.mem_cons_self)
      · exact .inl h
    · exact .inr (List.mem_cons_of_mem _ h)
theorem mem_delE {l : List Ent} {k : Nat} {x : Ent} (h : x ∈ delE l k) : x ∈ l ∧ x.n ≠ k := by
  unfold delE at h
  have := List.mem_filter.1 h
  exact ⟨this.1, by simpa using this.2⟩
/-- A tree without entries is one leaf. -/
theorem nodes_0 {x : Top} (h : Inv x) (hl : entsT x = []) (b : Nat) : nodesT x.1 x.2 b = [⟨true, [], [], []⟩] := by
  obtain ⟨d, t⟩ := x
  match d, t, h, hl with
  | 0, es, h, hl =>
    have : es = ([] : List Ent) := hl
    subst this
    rfl
  | d + 1, (ks, us), h, hl =>
    exfalso
    have h1 := nodes_top h b
    rw [hl] at h1
    have h2 : 2 ≤ us.length := h.big.2 (Nat.succ_pos _)
    have h3 : (nodesT (d + 1) (ks, us) b).length ≤ 1 := h1
    replace h3 : (nodesL (nodesT d) us b).1.length + 1 ≤ 1 := Nat.le_trans (Nat.le_of_eq (nodesT_len (d := d) (ks, us) b).symm) h3
    match us, h2, h3 with
    | u :: v :: l, _, h3 =>
      have h4 := nodesT_pos d u b
      have h5 : (nodesL (nodesT d) (u :: v :: l) b).1.length = (nodesT d u b).length + (nodesL (nodesT d) (v :: l) (b + (nodesT d u b).length)).1.length := List.length_append
      have h6 : (nodesL (nodesT d) (u :: v :: l) b).1.length + 1 ≤ 1 := h3
      omega
theorem entsI_length (xs : List IT) : (entsI xs).length = xs.length := List.length_map _
theorem entsI_next {xs : List IT} {j : Nat} (h : j < xs.length) : insAll ((entsI xs).take (j + 1)) = insE (insAll ((entsI xs).take j)) (entI xs[j].n 0 ⟨by decide, by decide⟩) := by
  have hl : j < (entsI xs).length := by rw [entsI_length]; exact h
  rw [insAll_next hl]
  simp [entsI]
theorem insI_mem {xs : List IT} {e : Ent} (h : e ∈ insAll (entsI xs)) : ∃ (i : Nat) (hi : i < xs.length), e.ky = keyI (xs[i]'hi).n := by
  rcases mem_insAll (entsI xs) [] h with h | h
  · cases h
  · obtain ⟨x, hx, rfl⟩ := List.mem_map.1 h
    obtain ⟨i, hi, rfl⟩ := List.getElem_of_mem hx
    exact ⟨i, hi, entI_ky _ _ _⟩
/-- Who is still there after j deletions. -/
def Still (xs : List IT) (back : Bool) (j : Nat) (es : List Ent) : Prop := ∀ e ∈ es, ∃ (i : Nat) (hi : i < xs.length), j ≤ (if back = true then xs.length - 1 - i else i) ∧ e.ky = keyI (xs[i]'hi).n
theorem Still.del {xs : List IT} {back : Bool} {j k : Nat} {es : List Ent} (h : Still xs back j es) (hk : k < xs.length) (hj : (if back = true then xs.length - 1 - k else k) = j) : Still xs back (j + 1) (delE es (keyI (xs[k]'hk).n).n) := fun e he => by
  obtain ⟨h1, h2⟩ := mem_delE he
  obtain ⟨i, hi, h3, h4⟩ := h e h1
  refine ⟨i, hi, ?_, h4⟩
  have : i ≠ k := by
    rintro rfl
    exact h2 (by rw [show e.n = e.ky.n from rfl, h4])
  cases back <;> simp at h3 hj ⊢ <;> omega
theorem Still.none {xs : List IT} {back : Bool} {es : List Ent} (h : Still xs back xs.length es) : es = [] := by
  match es, h with
  | [], _ => rfl
  | e :: es, h =>
    obtain ⟨i, hi, h3, _⟩ := h e List.mem_cons_self
    cases back <;> simp at h3 <;> omega
set_option maxRecDepth 20000 in
set_option maxHeartbeats 3200000 in
theorem treeEmpties_w {w : World} {v : Value} {xs : List IT} (hr : RdY rI w v xs) (back : Bool) : Calls Try.prog 7 #[v, .bool back] w fun r w' => r = .returned (.bool true) ∧ Below w.heap.size w w' := by
  obtain ⟨a, c, rfl, hml, hold⟩ := hr
  suffices key : ∀ w0, Kn Nil w0 w [] → (0 < xs.length → ∃ g o, a = some ⟨g, o, none⟩ ∧ Old Nil w0 g o (rows rI xs)) → Calls Try.prog 7 #[.slice a xs.length c, .bool back] w fun r w' => r = .returned (.bool true) ∧ Below w0.heap.size w0 w' from key w (Kn.start _ _) hold
  clear hold
  intro w0 hK hold
  have HO := Lib.hid hold
  clear hold
  unfold maxLen at hml
  go_enter Try.func7, Try.ntmps7
  by_cases hbig : xs.length ≤ 400
  rotate_left
  · have q : (400 : Int) < xs.length := by omega
    go_wp2_with ((go_at_call 27; (with_reducible refine (awake16_c _).mono ?_); rintro e w1 ⟨rfl, hb⟩; replace hK := hK.call hb; clear hb))
    go_ret
    exact ⟨rfl, hK.below⟩
  have q : ¬ (400 : Int) < xs.length := by omega
  go_wp2_with ((go_at_call 27; (with_reducible refine (awake16_c _).mono ?_); rintro e w1 ⟨rfl, hb⟩; replace hK := hK.call hb; clear hb))
  refine (New_t hK).mono ?_
  rintro r w1 ⟨bt, Mt, rfl, hTr, hK'⟩; clear hK; have hK := hK'; clear hK'
  go_wp2_with fail
  go_loopw [6] (fun n wr => ∃ (j : Nat) (Mt : Mem), j ≤ xs.length ∧ n = .int .i64 j ∧ Tree bt (insAll ((entsI xs).take j)) Mt ∧ Kn Nil w0 wr (Mt ++ [])) (fun n _ => xs.length - (intOf n).toNat)
  case atStart => exact ⟨0, Mt, Nat.zero_le _, rfl, hTr, hK⟩
  case round =>
    clear hK hTr Mt
    obtain ⟨j, Mt, hj, rfl, hTr, hK⟩ := hrel
    have hle := (insAll_le (entsI xs) j (by rw [entsI_length]; exact hj)).1
    by_cases hlt : j < xs.length
    · obtain ⟨g, o, rfl, hOld⟩ := HO.out (by omega)
      have hnx := entsI_next hlt
      obtain ⟨dd, hdd⟩ : ∃ dd, dd = xs[j] := ⟨_, rfl⟩
      have hOo : Old Nil w0 g (o + j * 1) [.int .i64 dd.n] := hdd ▸ hOld.sub (rows_part rI_len xs hlt)
      rw [← hdd] at hnx
      obtain ⟨e, he⟩ : ∃ e, e = entI dd.n 0 ⟨by decide, by decide⟩ := ⟨_, rfl⟩
      have hE := entry16_c 0 dd.n 0 dd.hn ⟨by decide, by decide⟩
      rw [← he] at hnx hE
      have HE := Lib.hid hE
      have HN := Lib.hid hnx
      have q1 : (j : Int) < xs.length := by omega
      clear hE hnx he hdd
      rw [Nat.mul_one] at hOo
      go_wp2_with (first | ((with_reducible change wpList _ _ _ (Oper.mk _ (Op.load _ _) _ _ _ _ :: _) _ _); refine KL_loadD (by rfl) _ _ rfl _ _ rfl (rangeAt_1 (hOo.see hK)) ?_) | (go_at_call 29; (with_reducible refine (HE.out _).mono ?_); rintro r w1 ⟨rfl, hb⟩; replace hK := hK.call hb; clear hb) | (go_at_call 22; refine (Set_t e hK hTr (by omega)).mono ?_; rintro r w1 ⟨rfl, Mt', hTr', hK'⟩; clear hK; have hK := hK'; clear hK'; clear hTr; have hTr := hTr'; clear hTr') | ((with_reducible change wpList _ _ _ (_ :: _) _ _); first | ((with_reducible change wpList _ _ _ (Oper.mk _ (Op.load _ _) _ _ _ _ :: _) _ _); first | (refine KL_load1 hK (by rfl) _ _ rfl _ _ rfl ?_) | (refine KL_load hK (by rfl) _ _ rfl _ _ rfl ?_)) | ((with_reducible change wpList _ _ _ (Oper.mk _ (Op.store _ _ _) _ _ _ _ :: _) _ _); first | (refine KL_store1 hK (by rfl) _ _ _ rfl _ _ rfl _ (by conv => lhs; whnf) (by rfl) ?_; clear hK; intro w hK) | (refine KL_store hK (by rfl) _ _ _ rfl _ _ rfl _ rfl ?_; clear hK; intro w hK)) | ((with_reducible change wpList _ _ _ (Oper.mk _ (Op.alloc _) _ _ _ _ :: _) _ _); refine KL_alloc hK (by rfl) _ rfl ?_; clear hK; intro b w hK) | ((with_reducible change wpList _ _ _ (Oper.mk _ (Op.box _ _) _ _ _ _ :: _) _ _); refine KL_box hK (by rfl) _ _ rfl _ (by conv => lhs; whnf) ?_; clear hK; intro b w hK) | ((with_reducible change wpList _ _ _ (Oper.mk _ (Op.build _ _) _ _ _ _ :: _) _ _); first | (refine KL_build0 (by rfl) _ rfl ?_) | (refine KL_build1 (by rfl) _ _ _ rfl _ (by conv => lhs; whnf) ?_) | (refine KL_build2 (by rfl) _ _ _ _ _ rfl _ (by conv => lhs; whnf) _ (by conv => lhs; whnf) ?_) | (refine KL_build3 (by rfl) _ _ _ _ _ _ _ rfl _ (by conv => lhs; whnf) _ (by conv => lhs; whnf) _ (by conv => lhs; whnf) ?_) | (refine KL_build4 (by rfl) _ _ _ _ _ _ _ _ _ rfl _ (by conv => lhs; whnf) _ (by conv => lhs; whnf) _ (by conv => lhs; whnf) _ (by conv => lhs; whnf) ?_) | (refine KL_build5 (by rfl) _ _ _ _ _ _ _ _ _ _ _ rfl _ (by conv => lhs; whnf) _ (by conv => lhs; whnf) _ (by conv => lhs; whnf) _ (by conv => lhs; whnf) _ (by conv => lhs; whnf) ?_)) | ((with_reducible change wpList _ _ _ (Oper.mk _ (Op.binOp _ _ _ _ _) _ _ _ _ :: _) _ _); refine KL_cmp (by rfl) _ _ _ _ _ rfl _ _ rfl rfl ?_) | ((with_reducible change wpList _ _ _ (Oper.mk _ (Op.call _) _ _ _ _ :: _) _ _); refine KL_copy hK (by rfl) _ _ _ _ rfl _ _ _ _ _ _ _ _ rfl rfl _ _ (by first | exact Nat.min_eq_left (by first | decide | omega) | exact Nat.min_eq_right (by first | decide | omega)) (by first | exact Nat.mul_one _ | (conv => lhs; simp only [Nat.reduceMul])) ?_; clear hK; intro w hK) | ((with_reducible change wpList _ _ _ (Oper.mk _ (Op.index _ _ _) _ _ _ _ :: _) _ _); refine KL_index (by rfl) _ _ _ rfl _ rfl _ rfl _ (by conv => lhs; simp only [Int.reduceToNat, Int.toNat_natCast]) (by first | decide | omega) (by first | decide | omega) ?_) | ((with_reducible change wpList _ _ _ (Oper.mk _ (Op.sliceToArrayPointer _ _) _ _ _ _ :: _) _ _); refine KL_arr (by rfl) _ _ rfl _ _ _ rfl (by first | decide | omega) ?_)))
      go_roundw
      case rel => exact ⟨j + 1, Mt', hlt, rfl, by rw [HN.out]; exact hTr, hK⟩
      case measure => simp [intOf]; omega
    · obtain rfl : j = xs.length := by omega
      rw [List.take_of_length_le (by rw [entsI_length]; exact Nat.le_refl _)] at hTr hle
      have hst : Still xs back 0 (insAll (entsI xs)) := fun e he => by
        obtain ⟨i, hi, h⟩ := insI_mem he
        exact ⟨i, hi, Nat.zero_le _, h⟩
      obtain ⟨es, hes⟩ : ∃ es, es = insAll (entsI xs) := ⟨_, rfl⟩
      rw [← hes] at hst hTr hle
      clear hes hj hlt
      go_wp2_with fail
      go_loopw [7] (fun n wr => ∃ (j : Nat) (es : List Ent) (Mt : Mem), j ≤ xs.length ∧ n = .int .i64 j ∧ es.length ≤ 400 ∧ Still xs back j es ∧ Tree bt es Mt ∧ Kn Nil w0 wr (Mt ++ [])) (fun n _ => xs.length - (intOf n).toNat)
      case atStart => exact ⟨0, es, Mt, Nat.zero_le _, rfl, by omega, hst, hTr, hK⟩
      case round =>
        clear hK hTr hst hle Mt es
        obtain ⟨j, es, Mt, hj, rfl, hle, hst, hTr, hK⟩ := hrel
        by_cases hlt : j < xs.length
        · have q1 : (j : Int) < xs.length := by omega
          cases back with
          | false =>
            obtain ⟨g, o, rfl, hOld⟩ := HO.out (by omega)
            obtain ⟨dd, hdd⟩ : ∃ dd, dd = xs[j]'hlt := ⟨_, rfl⟩
            have hOo : Old Nil w0 g (o + j * 1) [.int .i64 dd.n] := hdd ▸ hOld.sub (rows_part rI_len xs hlt)
            have hs2 := hst.del (k := j) hlt (by simp)
            rw [← hdd] at hs2
            have HS := Lib.hid hs2
            have HE := Lib.hid (key16_c dd.n dd.hn)
            have hdl := delE_len_le es (keyI dd.n).n
            rw [Nat.mul_one] at hOo
            clear hs2 hst hdd
            go_wp2_with (first | ((with_reducible change wpList _ _ _ (Oper.mk _ (Op.load _ _) _ _ _ _ :: _) _ _); refine KL_loadD (by rfl) _ _ rfl _ _ rfl (rangeAt_1 (hOo.see hK)) ?_) | (go_at_call 30; (with_reducible refine (HE.out _).mono ?_); rintro r w1 ⟨rfl, hb⟩; replace hK := hK.call hb; clear hb) | (go_at_call 24; refine (Del_t (keyI dd.n) hK hTr (by omega)).mono ?_; rintro r w1 ⟨rfl, Mt', hTr', hK'⟩; clear hK; have hK := hK'; clear hK'; clear hTr; have hTr := hTr'; clear hTr') | ((with_reducible change wpList _ _ _ (_ :: _) _ _); first | ((with_reducible change wpList _ _ _ (Oper.mk _ (Op.load _ _) _ _ _ _ :: _) _ _); first | (refine KL_load1 hK (by rfl) _ _ rfl _ _ rfl ?_) | (refine KL_load hK (by rfl) _ _ rfl _ _ rfl ?_)) | ((with_reducible change wpList _ _ _ (Oper.mk _ (Op.store _ _ _) _ _ _ _ :: _) _ _); first | (refine KL_store1 hK (by rfl) _ _ _ rfl _ _ rfl _ (by conv => lhs; whnf) (by rfl) ?_; clear hK; intro w hK) | (refine KL_store hK (by rfl) _ _ _ rfl _ _ rfl _ rfl ?_; clear hK; intro w hK)) | ((with_reducible change wpList _ _ _ (Oper.mk _ (Op.alloc _) _ _ _ _ :: _) _ _); refine KL_alloc hK (by rfl) _ rfl ?_; clear hK; intro b w hK) | ((with_reducible change wpList _ _ _ (Oper.mk _ (Op.box _ _) _ _ _ _ :: _) _ _); refine KL_box hK (by rfl) _ _ rfl _ (by conv => lhs; whnf) ?_; clear hK; intro b w hK) | ((with_reducible change wpList _ _ _ (Oper.mk _ (Op.build _ _) _ _ _ _ :: _) _ _); first | (refine KL_build0 (by rfl) _ rfl ?_) | (refine KL_build1 (by rfl) _ _ _ rfl _ (by conv => lhs; whnf) ?_) | (refine KL_build2 (by rfl) _ _ _ _ _ rfl _ (by conv => lhs; whnf) _ (by conv => lhs; whnf) ?_) | (refine KL_build3 (by rfl) _ _ _ _ _ _ _ rfl _ (by conv => lhs; whnf) _ (by conv => lhs; whnf) _ (by conv => lhs; whnf) ?_) | (refine KL_build4 (by rfl) _ _ _ _ _ _ _ _ _ rfl _ (by conv => lhs; whnf) _ (by conv => lhs; whnf) _ (by conv => lhs; whnf) _ (by conv => lhs; whnf) ?_) | (refine KL_build5 (by rfl) _ _ _ _ _ _ _ _ _ _ _ rfl _ (by conv => lhs; whnf) _ (by conv => lhs; whnf) _ (by conv => lhs; whnf) _ (by conv => lhs; whnf) _ (by conv => lhs; whnf) ?_)) | ((with_reducible change wpList _ _ _ (Oper.mk _ (Op.binOp _ _ _ _ _) _ _ _ _ :: _) _ _); refine KL_cmp (by rfl) _ _ _ _ _ rfl _ _ rfl rfl ?_) | ((with_reducible change wpList _ _ _ (Oper.mk _ (Op.call _) _ _ _ _ :: _) _ _); refine KL_copy hK (by rfl) _ _ _ _ rfl _ _ _ _ _ _ _ _ rfl rfl _ _ (by first | exact Nat.min_eq_left (by first | decide | omega) | exact Nat.min_eq_right (by first | decide | omega)) (by first | exact Nat.mul_one _ | (conv => lhs; simp only [Nat.reduceMul])) ?_; clear hK; intro w hK) | ((with_reducible change wpList _ _ _ (Oper.mk _ (Op.index _ _ _) _ _ _ _ :: _) _ _); refine KL_index (by rfl) _ _ _ rfl _ rfl _ rfl _ (by conv => lhs; simp only [Int.reduceToNat, Int.toNat_natCast]) (by first | decide | omega) (by first | decide | omega) ?_) | ((with_reducible change wpList _ _ _ (Oper.mk _ (Op.sliceToArrayPointer _ _) _ _ _ _ :: _) _ _); refine KL_arr (by rfl) _ _ rfl _ _ _ rfl (by first | decide | omega) ?_)))
            go_roundw
            case rel => exact ⟨j + 1, _, Mt', hlt, rfl, by omega, HS.out, hTr, hK⟩
            case measure => simp [intOf]; omega
          | true =>
            obtain ⟨k, hk⟩ : ∃ k : Nat, k = xs.length - 1 - j := ⟨_, rfl⟩
            have hk2 : k < xs.length := by omega
            have q2 : (k : Int) < xs.length := by omega
            have q3 : (xs.length : Int) - 1 - j = k := by omega
            have hkj : xs.length - 1 - k = j := by omega
            clear hk
            obtain ⟨g, o, rfl, hOld⟩ := HO.out (by omega)
            obtain ⟨dd, hdd⟩ : ∃ dd, dd = xs[k]'hk2 := ⟨_, rfl⟩
            have hOo : Old Nil w0 g (o + k * 1) [.int .i64 dd.n] := hdd ▸ hOld.sub (rows_part rI_len xs hk2)
            have hs2 := hst.del (k := k) hk2 (by rw [if_pos rfl]; exact hkj)
            rw [← hdd] at hs2
            have HS := Lib.hid hs2
            have HE := Lib.hid (key16_c dd.n dd.hn)
            have hdl := delE_len_le es (keyI dd.n).n
            rw [Nat.mul_one] at hOo
            clear hs2 hst hdd hkj
            go_wp2_with (first | ((with_reducible change wpList _ _ _ (Oper.mk _ (Op.load _ _) _ _ _ _ :: _) _ _); refine KL_loadD (by rfl) _ _ rfl _ _ rfl (rangeAt_1 (hOo.see hK)) ?_) | (go_at_call 30; (with_reducible refine (HE.out _).mono ?_); rintro r w1 ⟨rfl, hb⟩; replace hK := hK.call hb; clear hb) | (go_at_call 24; refine (Del_t (keyI dd.n) hK hTr (by omega)).mono ?_; rintro r w1 ⟨rfl, Mt', hTr', hK'⟩; clear hK; have hK := hK'; clear hK'; clear hTr; have hTr := hTr'; clear hTr') | ((with_reducible change wpList _ _ _ (_ :: _) _ _); first | ((with_reducible change wpList _ _ _ (Oper.mk _ (Op.load _ _) _ _ _ _ :: _) _ _); first | (refine KL_load1 hK (by rfl) _ _ rfl _ _ rfl ?_) | (refine KL_load hK (by rfl) _ _ rfl _ _ rfl ?_)) | ((with_reducible change wpList _ _ _ (Oper.mk _ (Op.store _ _ _) _ _ _ _ :: _) _ _); first | (refine KL_store1 hK (by rfl) _ _ _ rfl _ _ rfl _ (by conv => lhs; whnf) (by rfl) ?_; clear hK; intro w hK) | (refine KL_store hK (by rfl) _ _ _ rfl _ _ rfl _ rfl ?_; clear hK; intro w hK)) | ((with_reducible change wpList _ _ _ (Oper.mk _ (Op.alloc _) _ _ _ _ :: _) _ _); refine KL_alloc hK (by rfl) _ rfl ?_; clear hK; intro b w hK) | ((with_reducible change wpList _ _ _ (Oper.mk _ (Op.box _ _) _ _ _ _ :: _) _ _); refine KL_box hK (by rfl) _ _ rfl _ (by conv => lhs; whnf) ?_; clear hK; intro b w hK) | ((with_reducible change wpList _ _ _ (Oper.mk _ (Op.build _ _) _ _ _ _ :: _) _ _); first | (refine KL_build0 (by rfl) _ rfl ?_) | (refine KL_build1 (by rfl) _ _ _ rfl _ (by conv => lhs; whnf) ?_) | (refine KL_build2 (by rfl) _ _ _ _ _ rfl _ (by conv => lhs; whnf) _ (by conv => lhs; whnf) ?_) | (refine KL_build3 (by rfl) _ _ _ _ _ _ _ rfl _ (by conv => lhs; whnf) _ (by conv => lhs; whnf) _ (by conv => lhs; whnf) ?_) | (refine KL_build4 (by rfl) _ _ _ _ _ _ _ _ _ rfl _ (by conv => lhs; whnf) _ (by conv => lhs; whnf) _ (by conv => lhs; whnf) _ (by conv => lhs; whnf) ?_) | (refine KL_build5 (by rfl) _ _ _ _ _ _ _ _ _ _ _ rfl _ (by conv => lhs; whnf) _ (by conv => lhs; whnf) _ (by conv => lhs; whnf) _ (by conv => lhs; whnf) _ (by conv => lhs; whnf) ?_)) | ((with_reducible change wpList _ _ _ (Oper.mk _ (Op.binOp _ _ _ _ _) _ _ _ _ :: _) _ _); refine KL_cmp (by rfl) _ _ _ _ _ rfl _ _ rfl rfl ?_) | ((with_reducible change wpList _ _ _ (Oper.mk _ (Op.call _) _ _ _ _ :: _) _ _); refine KL_copy hK (by rfl) _ _ _ _ rfl _ _ _ _ _ _ _ _ rfl rfl _ _ (by first | exact Nat.min_eq_left (by first | decide | omega) | exact Nat.min_eq_right (by first | decide | omega)) (by first | exact Nat.mul_one _ | (conv => lhs; simp only [Nat.reduceMul])) ?_; clear hK; intro w hK) | ((with_reducible change wpList _ _ _ (Oper.mk _ (Op.index _ _ _) _ _ _ _ :: _) _ _); refine KL_index (by rfl) _ _ _ rfl _ rfl _ rfl _ (by conv => lhs; simp only [Int.reduceToNat, Int.toNat_natCast]) (by first | decide | omega) (by first | decide | omega) ?_) | ((with_reducible change wpList _ _ _ (Oper.mk _ (Op.sliceToArrayPointer _ _) _ _ _ _ :: _) _ _); refine KL_arr (by rfl) _ _ rfl _ _ _ rfl (by first | decide | omega) ?_)))
            go_roundw
            case rel => exact ⟨j + 1, _, Mt', hlt, rfl, by omega, HS.out, hTr, hK⟩
            case measure => simp [intOf]; omega
        · obtain rfl : j = xs.length := by omega
          obtain rfl := hst.none
          clear hst hle hlt
          go_wp2_with fail
          refine (Nodes_y hTr (by decide) [] hK).mono ?_
          rintro r w1 ⟨x, ns, v, Mv, ps, MM, hi, hes, hns, rfl, hSn, hRn, hK'⟩; clear hK; have hK := hK'; clear hK'
          rw [nodes_0 hi hes 0] at hns
          subst hns
          rw [show ((([⟨true, [], [], []⟩] : List NodeV).length : Int) - 1) = 0 from rfl]
          replace hSn := hSn.cg (n' := 1) rfl rfl
          obtain ⟨gv, cv, jv, rfl, rfl, _, _, _, _⟩ := hSn.pos (by decide)
          have hK1 : Kn Nil w0 w1 ((gv, 77, flatV ps ++ jv) :: (Mt ++ [])) := (Kn.mv hK MM (fun f => by simp only [wt_append, wt_cons, wt_nil]; omega))
          obtain ⟨vi, hvi, hat0, hat1⟩ : ∃ vi : Value, (∃ a c, vi = .slice a 0 c) ∧ (flatV ps ++ jv)[0]? = some (.bool true) ∧ (flatV ps ++ jv)[1]? = some vi := by
            cases hRn with
            | cons h1 h =>
            cases h
            obtain ⟨ve, _, _, _, _, _, rfl, hs, _⟩ := h1
            exact ⟨ve, hs.val2, rfl, rfl⟩
          obtain ⟨ai, ci, rfl⟩ := hvi
          haveI hatb : At (flatV ps ++ jv) 0 (.bool true) := ⟨hat0⟩
          haveI hate : At (flatV ps ++ jv) 1 (.slice ai 0 ci) := ⟨hat1⟩
          clear hK hRn hSn hes hi hat0 hat1
          have hK := hK1
          clear hK1
          have hLen : ∀ w, Kn Nil w0 w ([(gv, 77, flatV ps ++ jv)] ++ (Mt ++ [])) → Calls Try.prog 20 #[.pointer (some ⟨bt, 0, none⟩)] w fun r w' => r = .returned (.int .i64 0) ∧ Kn Nil w0 w' ([(gv, 77, flatV ps ++ jv)] ++ (Mt ++ [])) := fun w h => Len_y hTr [_] h
          have HL := Lib.hid hLen
          clear hLen hTr
          go_wp2_with (first | ((with_reducible change wpList _ _ _ (_ :: _) _ _); first | ((with_reducible change wpList _ _ _ (Oper.mk _ (Op.load _ _) _ _ _ _ :: _) _ _); first | (refine KL_load1 hK (by rfl) _ _ rfl _ _ rfl ?_) | (refine KL_load hK (by rfl) _ _ rfl _ _ rfl ?_)) | ((with_reducible change wpList _ _ _ (Oper.mk _ (Op.store _ _ _) _ _ _ _ :: _) _ _); first | (refine KL_store1 hK (by rfl) _ _ _ rfl _ _ rfl _ (by conv => lhs; whnf) (by rfl) ?_; clear hK; intro w hK) | (refine KL_store hK (by rfl) _ _ _ rfl _ _ rfl _ rfl ?_; clear hK; intro w hK)) | ((with_reducible change wpList _ _ _ (Oper.mk _ (Op.alloc _) _ _ _ _ :: _) _ _); refine KL_alloc hK (by rfl) _ rfl ?_; clear hK; intro b w hK) | ((with_reducible change wpList _ _ _ (Oper.mk _ (Op.box _ _) _ _ _ _ :: _) _ _); refine KL_box hK (by rfl) _ _ rfl _ (by conv => lhs; whnf) ?_; clear hK; intro b w hK) | ((with_reducible change wpList _ _ _ (Oper.mk _ (Op.build _ _) _ _ _ _ :: _) _ _); first | (refine KL_build0 (by rfl) _ rfl ?_) | (refine KL_build1 (by rfl) _ _ _ rfl _ (by conv => lhs; whnf) ?_) | (refine KL_build2 (by rfl) _ _ _ _ _ rfl _ (by conv => lhs; whnf) _ (by conv => lhs; whnf) ?_) | (refine KL_build3 (by rfl) _ _ _ _ _ _ _ rfl _ (by conv => lhs; whnf) _ (by conv => lhs; whnf) _ (by conv => lhs; whnf) ?_) | (refine KL_build4 (by rfl) _ _ _ _ _ _ _ _ _ rfl _ (by conv => lhs; whnf) _ (by conv => lhs; whnf) _ (by conv => lhs; whnf) _ (by conv => lhs; whnf) ?_) | (refine KL_build5 (by rfl) _ _ _ _ _ _ _ _ _ _ _ rfl _ (by conv => lhs; whnf) _ (by conv => lhs; whnf) _ (by conv => lhs; whnf) _ (by conv => lhs; whnf) _ (by conv => lhs; whnf) ?_)) | ((with_reducible change wpList _ _ _ (Oper.mk _ (Op.binOp _ _ _ _ _) _ _ _ _ :: _) _ _); refine KL_cmp (by rfl) _ _ _ _ _ rfl _ _ rfl rfl ?_) | ((with_reducible change wpList _ _ _ (Oper.mk _ (Op.call _) _ _ _ _ :: _) _ _); refine KL_copy hK (by rfl) _ _ _ _ rfl _ _ _ _ _ _ _ _ rfl rfl _ _ (by first | exact Nat.min_eq_left (by first | decide | omega) | exact Nat.min_eq_right (by first | decide | omega)) (by first | exact Nat.mul_one _ | (conv => lhs; simp only [Nat.reduceMul])) ?_; clear hK; intro w hK) | ((with_reducible change wpList _ _ _ (Oper.mk _ (Op.index _ _ _) _ _ _ _ :: _) _ _); refine KL_index (by rfl) _ _ _ rfl _ rfl _ rfl _ (by conv => lhs; simp only [Int.reduceToNat, Int.toNat_natCast]) (by first | decide | omega) (by first | decide | omega) ?_) | ((with_reducible change wpList _ _ _ (Oper.mk _ (Op.sliceToArrayPointer _ _) _ _ _ _ :: _) _ _); refine KL_arr (by rfl) _ _ rfl _ _ _ rfl (by first | decide | omega) ?_)) | (go_at_call 20; refine (HL.out _ hK).mono ?_; rintro r w1 ⟨rfl, hK'⟩; clear hK; have hK := hK'; clear hK'))
          go_ret
          exact ⟨rfl, hK.below⟩
end Go.Proofs.Ytpkhomfblilkhaa.E
