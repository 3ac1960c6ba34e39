/- Laws of no program: slices whose row may be longer than they can reach; append of any source, append of a make, copy, clear, over memory known as a list of whole blocks. Conditions: what each names. -/
import Derived.Test.YtpkhomfblilkhaaK4
import Derived.Deep.AppendSrc
import Derived.Lib.AppendZerosOnto
import Derived.Lib.Overlaps
namespace Go.Proofs.Ytpkhomfblilkhaa.E
set_option linter.all false
open Go Go.RowKit

instance {L : Mem} : Sub L L := ⟨List.Sublist.refl _⟩
/-- A slice of n elements of type e, of size cells each, reading xs; M: its block, which may be longer than the slice can reach. -/
inductive Sl (e : TypeId) (size n : Nat) (xs : List Value) : Value → Mem → Prop
  | nil (hn : n = 0) (hx : xs = []) : Sl e size n xs (.slice none 0 0) []
  | row (g cap : Nat) (junk : List Value) (hx : xs.length = n * size) (hc : cap * size ≤ (xs ++ junk).length) (hn : n ≤ cap) (hm : cap ≤ maxLen) : Sl e size n xs (.slice (some ⟨g, 0, none⟩) n cap) [(g, e, xs ++ junk)]
theorem Sl.len {e size n : Nat} {xs : List Value} {v : Value} {M : Mem} (h : Sl e size n xs v M) : xs.length = n * size := by
  cases h with
  | nil hn hx => subst hn hx; simp
  | row g cap junk hx => exact hx
theorem Sl.cg {e size n n' : Nat} {xs xs' : List Value} {v : Value} {M : Mem} (h : Sl e size n xs v M) (hn : n = n') (hx : xs = xs') : Sl e size n' xs' v M := by subst hn hx; exact h
theorem Sl.whole {e size g n : Nat} {xs : List Value} (hx : xs.length = n * size) (hm : n ≤ maxLen) : Sl e size n xs (.slice (some ⟨g, 0, none⟩) n n) [(g, e, xs)] := by
  have := Sl.row (e := e) (xs := xs) g n [] hx (by simp [hx]) (Nat.le_refl _) hm
  rwa [List.append_nil] at this
/-- The slice is cut short, and its reach with it. -/
theorem Sl.short {e size n : Nat} {xs : List Value} {g cap : Nat} {l : List Value} (k : Nat) (hk : k ≤ n) (h : Sl e size n xs (.slice (some ⟨g, 0, none⟩) n cap) [(g, e, l)]) : Sl e size k (xs.take (k * size)) (.slice (some ⟨g, 0, none⟩) k k) [(g, e, l)] := by
  cases h with
  | row g cap junk hx hc hn hm =>
    have hks : k * size ≤ n * size := Nat.mul_le_mul_right _ hk
    have e1 : xs ++ junk = xs.take (k * size) ++ (xs.drop (k * size) ++ junk) := by rw [← List.append_assoc, List.take_append_drop]
    have h2 : (xs.take (k * size)).length = k * size := by rw [List.length_take]; omega
    rw [e1]
    exact .row g k _ h2 (by rw [List.length_append, h2]; omega) (Nat.le_refl _) (by omega)

theorem Sl.pos {e size n : Nat} {xs : List Value} {v : Value} {M : Mem} (h : Sl e size n xs v M) (h0 : 0 < n) : ∃ g cap junk, v = .slice (some ⟨g, 0, none⟩) n cap ∧ M = [(g, e, xs ++ junk)] ∧ xs.length = n * size ∧ cap * size ≤ (xs ++ junk).length ∧ n ≤ cap ∧ cap ≤ maxLen := by
  cases h with
  | nil hn => omega
  | row g cap junk hx hc hn hm => exact ⟨g, cap, junk, rfl, rfl, hx, hc, hn, hm⟩
/-! Memory in another order, by weight -/
def wt {α : Type} (f : α → Nat) : List α → Nat
  | [] => 0
  | x :: l => f x + wt f l
theorem wt_nil {α : Type} (f : α → Nat) : wt f [] = 0 := rfl
theorem wt_cons {α : Type} (f : α → Nat) (x : α) (l : List α) : wt f (x :: l) = f x + wt f l := rfl
theorem wt_append {α : Type} (f : α → Nat) : ∀ (l m : List α), wt f (l ++ m) = wt f l + wt f m
  | [], m => by simp [wt]
  | x :: l, m => by rw [List.cons_append, wt_cons, wt_cons, wt_append f l m]; omega
theorem perm_of_wt {α : Type} {l m : List α} (h : ∀ f : α → Nat, wt f l = wt f m) : l.Perm m := by
  classical
  refine List.perm_iff_count.2 fun a => ?_
  have hc : ∀ l : List α, List.count a l = wt (fun x => if x = a then 1 else 0) l := by
    intro l
    induction l with
    | nil => rfl
    | cons x l ih =>
      rw [List.count_cons, wt_cons, ih]
      by_cases hx : x = a
      · simp [hx]; omega
      · simp [hx]
  rw [hc, hc, h]
theorem Kn.mv {F : Nat → Prop} {w0 w : World} {L L' : Mem} (hK : Kn F w0 w L) (R : Mem) (h : ∀ f, wt f L = wt f (L' ++ R)) : Kn F w0 w L' := (hK.perm (perm_of_wt h)).sub (List.sublist_append_left _ _)
/-! Memory in another order -/
section
variable {F : Nat → Prop} {w0 w : World} {M L : Mem} {x y z u : Nat × TypeId × List Value}
theorem Kn.up1 (hK : Kn F w0 w (x :: (M ++ L))) : Kn F w0 w (M ++ x :: L) := hK.perm List.perm_middle.symm
theorem Kn.dn1 (hK : Kn F w0 w (M ++ x :: L)) : Kn F w0 w (x :: (M ++ L)) := hK.perm List.perm_middle
theorem Kn.up2 (hK : Kn F w0 w (x :: y :: (M ++ L))) : Kn F w0 w (M ++ x :: y :: L) := hK.perm ((List.perm_middle.symm.cons x).trans List.perm_middle.symm)
theorem Kn.dn2 (hK : Kn F w0 w (M ++ x :: y :: L)) : Kn F w0 w (x :: y :: (M ++ L)) := hK.perm ((List.perm_middle.symm.cons x).trans List.perm_middle.symm).symm
theorem Kn.up3 (hK : Kn F w0 w (x :: y :: z :: (M ++ L))) : Kn F w0 w (M ++ x :: y :: z :: L) := hK.perm ((((List.perm_middle.symm.cons y).trans List.perm_middle.symm).cons x).trans List.perm_middle.symm)
theorem Kn.dn3 (hK : Kn F w0 w (M ++ x :: y :: z :: L)) : Kn F w0 w (x :: y :: z :: (M ++ L)) := hK.perm ((((List.perm_middle.symm.cons y).trans List.perm_middle.symm).cons x).trans List.perm_middle.symm).symm
end
/-- A slice is handed back. -/
def SlRet (F : Nat → Prop) (w0 : World) (e size n : Nat) (xs : List Value) (L : Mem) : Ending → World → Prop := fun r w' => ∃ v' M', r = .returned v' ∧ Sl e size n xs v' M' ∧ Kn F w0 w' (M' ++ L)

/-! ### append -/
section
variable {P : Program} {w : World}
theorem run_app_room {t tx ty e b off n c m size T : Nat} {x : Value} {l news : List Value} {i : TypeInfo} (ht : P.underlying t = some (.slice e)) (hi : P.info? e = some i) (hz : i.size = size) (hb : Blk w b T l) (hs : Src P size tx x m news w) (hroom : n + m ≤ c) (hf : off + n * size + news.length ≤ l.length) :
    (Builtin.append_ #[t, tx] ty #[.slice (some ⟨b, off, none⟩) n c, x]).run P w = .ok (.slice (some ⟨b, off, none⟩) (n + m) c) (w.setRow b (splice l (off + n * size) news).toArray) := by
  subst hz
  have hst := run_storeCells_at P b (off + n * i.size) T news 0 l.toArray w hb (by simpa using hf) hs.one
  simp only [Nat.add_zero] at hst
  have e : (l.toArray.toList.take (off + n * i.size) ++ news ++ l.toArray.toList.drop (off + n * i.size + news.length)).toArray = (splice l (off + n * i.size) news).toArray := by simp [splice]
  rw [e] at hst
  rcases hs.kind with ⟨e', hk⟩ | hk <;> simp [Builtin.append_, run_underlying ht, run_underlying hk, sizeOf, typeInfo, hi, hs.len, hroom, hs.cells, Addr.add_lit, hst]
theorem zeroCells_length {z : Array Value} {k : Nat} : (Builtin.zeroCells z k).toList.length = k * z.size := by simp [Builtin.zeroCells]
/-- What an append onto a slice leaves, whatever is appended. -/
theorem app_sl {F : Nat → Prop} {w0 : World} {L M : Mem} (hK : Kn F w0 w (M ++ L)) {t tx ty e size bytes n m : Nat} {xs news : List Value} {v x : Value} (hS : Sl e size n xs v M) [ht : TySl P t e] [he : TyEl P e size bytes] (hs : Src P size tx x m news w)
    (h63 : n + m ≤ 1000000) (hby : bytes ≤ 100000) :
    ∃ v' M' w', (Builtin.append_ #[t, tx] ty #[v, x]).run P w = .ok v' w' ∧ Sl e size (n + m) (xs ++ news) v' M' ∧ Kn F w0 w' (M' ++ L) := by
  obtain ⟨i, z, hi, hz, hsz, hbt, hzs⟩ := el_of he
  subst hsz
  have hnl : news.length = m * i.size := hs.newsLen
  have hmul : (n + m) * bytes ≤ 1000000 * 100000 := Nat.mul_le_mul h63 hby
  cases hS with
  | nil hn hx =>
    subst hn hx
    rw [List.nil_append] at hK
    by_cases hm : m = 0
    · subst hm
      have hn : news = [] := List.eq_nil_of_length_eq_zero (by simpa using hnl)
      subst hn
      refine ⟨.slice none 0 0, [], w, ?_, .nil rfl rfl, hK⟩
      rcases hs.kind with ⟨e', hk⟩ | hk <;> simp [Builtin.append_, run_underlying ht.out, run_underlying hk, sizeOf, typeInfo, hi, hs.len, hs.cells]
    · have hr := run_append_grow_src (P := P) w t tx ty e i z ht.out hi hz none 0 0 [] (by simp [Builtin.firstCells]) x m news hs (by omega) (by omega) (growslice_fits (by omega) (by rw [hbt]; omega))
      have hge := grownCap_ge w (0 + m) 0 e
      have hcm : grownCap w (0 + m) 0 e ≤ maxLen := grownCap_le_maxLen w (0 + m) 0 e (by unfold maxLen; omega)
      refine ⟨_, [(w.heap.size, e, _)], _, hr, ?_, hK.drew.made (made_alloc w.drew e _)⟩
      simp only [List.nil_append, Array.toList_append, List.toList_toArray]
      refine .row _ _ _ (by rw [hnl]; simp) ?_ hge (hcm)
      rw [List.length_append, zeroCells_length, hnl, hzs, ← Nat.add_mul]
      exact Nat.mul_le_mul_right _ (by omega)
  | row g cap junk hx hc hn hcap =>
    have hB : Blk w g e (xs ++ junk) := hK.blk (g, e, xs ++ junk) (List.mem_append_left _ (List.mem_cons_self ..))
    by_cases hroom : n + m ≤ cap
    · have h2 : (n + m) * i.size ≤ cap * i.size := Nat.mul_le_mul_right _ hroom
      rw [Nat.add_mul] at h2
      have hfit : 0 + n * i.size + news.length ≤ (xs ++ junk).length := by omega
      have hr := run_app_room (P := P) (ty := ty) ht.out hi rfl hB hs hroom hfit
      have hK' : Kn F w0 (w.setRow g (splice (xs ++ junk) (0 + n * i.size) news).toArray) ([(g, e, splice (xs ++ junk) (0 + n * i.size) news)] ++ L) :=
        Kn.wrote (b := g) (T := e) (l := xs ++ junk) (L := (g, e, xs ++ junk) :: L) hK (wrote_setRow _) (hB.setRow _)
      refine ⟨_, _, _, hr, ?_, hK'⟩
      have hjl : news.length ≤ junk.length := by rw [List.length_append] at hfit; omega
      have e1 : splice (xs ++ junk) (0 + n * i.size) news = (xs ++ news) ++ junk.drop news.length := by
        rw [splice_at (pre := xs) (mid := junk.take news.length) (post := junk.drop news.length) (by rw [List.take_append_drop]) (by omega) (by rw [List.length_take]; omega), List.append_assoc]
      rw [e1]
      refine .row g cap _ (by rw [List.length_append, hx, hnl, ← Nat.add_mul]) ?_ hroom hcap
      simp only [List.length_append, List.length_drop] at hc ⊢
      omega
    · have hold : (Builtin.firstCells i.size n (.slice (some ⟨g, 0, none⟩) n cap)).run P w.drew = .ok xs.toArray w.drew :=
        run_firstCells_some w.drew i.size n ⟨g, 0, none⟩ n cap xs hx (fun j u hj => by
          have hjl : j < xs.length := (List.getElem?_eq_some_iff.1 hj).1
          rw [Addr.add_mid, World.cell?_drew, hB.cell, Nat.zero_add, List.getElem?_append_left hjl, hj])
      have hr := run_append_grow_src (P := P) w t tx ty e i z ht.out hi hz (some ⟨g, 0, none⟩) n cap xs hold x m news hs (by omega) (by omega) (growslice_fits (by omega) (by rw [hbt]; omega))
      have hge := grownCap_ge w (n + m) cap e
      have hcm : grownCap w (n + m) cap e ≤ maxLen := grownCap_le_maxLen w (n + m) cap e (by unfold maxLen; omega)
      refine ⟨_, [(w.heap.size, e, _)], _, hr, ?_, (hK.tail).drew.made (made_alloc w.drew e _)⟩
      simp only [Array.toList_append, List.toList_toArray]
      refine .row _ _ _ (by rw [List.length_append, hx, hnl, ← Nat.add_mul]) ?_ hge (hcm)
      rw [List.length_append, List.length_append, zeroCells_length, hx, hnl, hzs, ← Nat.add_mul, ← Nat.add_mul]
      exact Nat.mul_le_mul_right _ (by omega)
/-- append(s[:i], make(S, k)...) where there is no room: a new row. -/
theorem app_make {F : Nat → Prop} {w0 : World} {L : Mem} (hK : Kn F w0 w L) {t tn ty e size bytes n cap k g T : Nat} {kn : IntKind} {xs l : List Value} [ht : TySl P t e] (htn : P.underlying tn = some (.int kn)) [he : TyEl P e size bytes] (hB : Blk w g T l) (hx : (l.take (n * size)) = xs) (hl : n * size ≤ l.length)
    (h0 : 0 < k) (hg : cap < n + k) (h63 : n + k ≤ 1000000) (hby : bytes ≤ 100000) :
    ∃ c b w' junk, (Builtin.append_ #[t, tn] ty #[.slice (some ⟨g, 0, none⟩) n cap, .int .i64 k]).run P w = .ok (.slice (some ⟨b, 0, none⟩) (n + k) c) w' ∧ n + k ≤ c ∧ c ≤ maxLen ∧ junk.length = c * size - n * size ∧ Kn F w0 w' ((b, e, xs ++ junk) :: L) := by
  obtain ⟨i, z, hi, hz, hsz, hbt, hzs⟩ := el_of he
  subst hsz
  have hxl : xs.length = n * i.size := by rw [← hx, List.length_take]; omega
  have hmul : (n + k) * bytes ≤ 1000000 * 100000 := Nat.mul_le_mul h63 hby
  have hmul2 : k * bytes ≤ 1000000 * 100000 := Nat.mul_le_mul (by omega) hby
  have hold : (Builtin.firstCells i.size n (.slice (some ⟨g, 0, none⟩) n cap)).run P w.drew = .ok xs.toArray w.drew :=
    run_firstCells_some w.drew i.size n ⟨g, 0, none⟩ n cap xs hxl (fun j u hj => by
      have hjl : j < xs.length := (List.getElem?_eq_some_iff.1 hj).1
      rw [Addr.add_mid, World.cell?_drew, hB.cell, Nat.zero_add, ← hj, ← hx, List.getElem?_take, if_pos (by omega)])
  have hr := Lib.run_append_grow_zeros (P := P) w t tn ty e i z .i64 kn ht.out htn hi hz (some ⟨g, 0, none⟩) n cap xs hold k h0 (he.pos) hg (by omega) (by rw [hbt]; omega) (growslice_fits (by omega) (by rw [hbt]; omega))
  have hge := grownCap_ge w (n + k) cap e
  have hcm : grownCap w (n + k) cap e ≤ maxLen := grownCap_le_maxLen w (n + k) cap e (by unfold maxLen; omega)
  refine ⟨_, _, _, (Builtin.zeroCells z.cells k).toList ++ (Builtin.zeroCells z.cells (grownCap w (n + k) cap e - (n + k))).toList, hr, hge, hcm, ?_, ?_⟩
  · rw [List.length_append, zeroCells_length, zeroCells_length, hzs, ← Nat.add_mul, ← Nat.sub_mul]
    congr 1
    omega
  · have := hK.drew.made (made_alloc w.drew e (xs.toArray ++ Builtin.zeroCells z.cells k ++ Builtin.zeroCells z.cells (grownCap w (n + k) cap e - (n + k))))
    simp only [Array.toList_append, List.toList_toArray, List.append_assoc] at this
    exact this
end

section
variable {P : Program} {ops : Array Oper} {rest : List Oper} {o : Oper} {a : Act} {w : World} {Q : Exit → Act → World → Prop} {K : Act → World → Prop} {F : Nat → Prop} {w0 : World} {L M : Mem}
/-- append, whatever is appended, at the operation. -/
theorem KO_appS (hK : Kn F w0 w (M ++ L)) {e size bytes n m : Nat} {xs news : List Value} {v : Value} (hS : Sl e size n xs v M) (s x : Operand) (t tx : TypeId) (ho : o.op = .call { callee := .builtin .append, args := #[s, x], argTypes := #[t, tx] }) [ht : TySl P t e] [he : TyEl P e size bytes]
    (hs : a.eval s = v) {y : Value} (hy : a.eval x = y) (hx : Src P size tx y m news w) (h63 : n + m ≤ 1000000) (hby : bytes ≤ 100000)
    (h : ∀ v' M' w', Sl e size (n + m) (xs ++ news) v' M' → Kn F w0 w' (M' ++ L) → K (a.put o.dst v') w') : Oper.wp P o a w K Q := by
  obtain ⟨v', M', w', hr, hS', hK'⟩ := app_sl (P := P) (ty := o.type) (t := t) hK hS hx h63 hby
  unfold Oper.wp execOp
  simp only [ho, resolve, invoke, builtin, Sem.run_bind, Sem.run_pure, Result.andThen_ok, List.map_toArray, List.map_cons, List.map_nil, hs, hy, hr]
  exact h v' M' w' hS' hK'
theorem KL_appS (hK : Kn F w0 w (M ++ L)) {e size bytes n m : Nat} {xs news : List Value} {v : Value} (hS : Sl e size n xs v M) (hgd : Region.wanted o (yielded ops a.tmps) = true) (s x : Operand) (t tx : TypeId) (ho : o.op = .call { callee := .builtin .append, args := #[s, x], argTypes := #[t, tx] }) [ht : TySl P t e] [he : TyEl P e size bytes]
    (hs : a.eval s = v) {y : Value} (hy : a.eval x = y) (hx : Src P size tx y m news w) (h63 : n + m ≤ 1000000) (hby : bytes ≤ 100000)
    (h : ∀ v' M' w', Sl e size (n + m) (xs ++ news) v' M' → Kn F w0 w' (M' ++ L) → wpList P ops Q rest (a.put o.dst v') w') : wpList P ops Q (o :: rest) a w :=
  wpList_want hgd fun _ hk => KO_appS hK hS s x t tx ho hs hy hx h63 hby fun v' M' w' h1 h2 => hk _ _ (h v' M' w' h1 h2)
/-- append where there is room. -/
theorem KO_appR (hK : Kn F w0 w L) (s x : Operand) (t tx : TypeId) (ho : o.op = .call { callee := .builtin .append, args := #[s, x], argTypes := #[t, tx] }) {e size bytes : Nat} [ht : TySl P t e] [he : TyEl P e size bytes] {b off n c m : Nat}
    (hs : a.eval s = .slice (some ⟨b, off, none⟩) n c) {y : Value} (hy : a.eval x = y) {news : List Value} (hx : Src P size tx y m news w) (hroom : n + m ≤ c) {T : TypeId} {l : List Value} [hb : Has L b T l] (hf : off + n * size + news.length ≤ l.length) {l' : List Value} (hl : splice l (off + n * size) news = l') {L' : Mem} [hup : Upd L b T l l' L']
    (h : ∀ w', Kn F w0 w' L' → K (a.put o.dst (.slice (some ⟨b, off, none⟩) (n + m) c)) w') : Oper.wp P o a w K Q := by
  obtain ⟨i, z, hi, hz, hsz, hbt, hzs⟩ := el_of he
  have hB : Blk w b T l := hK.has
  have hr := run_app_room (P := P) (ty := o.type) ht.out hi hsz hB hx hroom hf
  rw [hl] at hr
  unfold Oper.wp execOp
  simp only [ho, resolve, invoke, builtin, Sem.run_bind, Sem.run_pure, Result.andThen_ok, List.map_toArray, List.map_cons, List.map_nil, hs, hy, hr]
  exact h _ (hK.wrote (wrote_setRow _) (hB.setRow _))
theorem KL_bsv (hK : Kn F w0 w L) (hgd : Region.wanted o (yielded ops a.tmps) = true) (T : TypeId) (len : Nat) (parts : Array (Nat × Operand)) (ho : o.op = .buildSlice T len parts) (vs : List (Nat × Value)) (hv : parts.toList.map (fun p => (p.1, a.eval p.2)) = vs) {e : TypeId} {l : List Value} [hb : BSl P T len vs e l]
    (h : ∀ b w', Kn F w0 w' ((b, e, l) :: L) → wpList P ops Q rest (a.put o.dst (.slice (some ⟨b, 0, none⟩) len len)) w') : wpList P ops Q (o :: rest) a w :=
  wpList_want hgd fun _ hk => KO_buildSlice hK T len parts ho vs hv fun b w' h' => hk _ _ (h b w' h')
instance {T e size bytes : Nat} [ht : TySl P T e] [he : TyEl P e size bytes] : BSl P T 0 [] e [] :=
  ⟨fun w => by
    obtain ⟨i, z, hi, hz, hsz, hbt, hzs⟩ := el_of he
    simp [Instr.buildSlice, run_underlying ht.out, sizeOf, typeInfo, hi, Instr.fill, newRow, go_sem]⟩
/-- append of a make, no room. -/
theorem KL_appM (hK : Kn F w0 w L) (hgd : Region.wanted o (yielded ops a.tmps) = true) (s x : Operand) (t tn : TypeId) (ho : o.op = .call { callee := .builtin .append, args := #[s, x], argTypes := #[t, tn] }) {e size bytes n cap k g : Nat} [ht : TySl P t e] [he : TyEl P e size bytes]
    (hs : a.eval s = .slice (some ⟨g, 0, none⟩) n cap) (hy : a.eval x = .int .i64 k) {kn : IntKind} (htn : P.underlying tn = some (.int kn)) {T : TypeId} {l : List Value} [hb : Has L g T l] {xs : List Value} (hx : (l.take (n * size)) = xs) (hl : n * size ≤ l.length)
    (h0 : 0 < k) (hg : cap < n + k) (h63 : n + k ≤ 1000000) (hby : bytes ≤ 100000)
    (h : ∀ c b w' junk, n + k ≤ c → c ≤ maxLen → junk.length = c * size - n * size → Kn F w0 w' ((b, e, xs ++ junk) :: L) → wpList P ops Q rest (a.put o.dst (.slice (some ⟨b, 0, none⟩) (n + k) c)) w') : wpList P ops Q (o :: rest) a w :=
  wpList_want hgd fun _ hk => by
    obtain ⟨c, b, w', junk, hr, h1, h2, h3, h4⟩ := app_make (P := P) (ty := o.type) (t := t) hK htn (hK.has : Blk w g T l) hx hl h0 hg h63 hby
    unfold Oper.wp execOp
    simp only [ho, resolve, invoke, builtin, Sem.run_bind, Sem.run_pure, Result.andThen_ok, List.map_toArray, List.map_cons, List.map_nil, hs, hy, hr]
    exact hk _ _ (h c b w' junk h1 h2 h3 h4)
/-- copy, the cells told by equations. -/
theorem KL_cp (hK : Kn F w0 w L) (hgd : Region.wanted o (yielded ops a.tmps) = true) (d s : Operand) (dT sT : TypeId) (ho : o.op = .call { callee := .builtin .copy, args := #[d, s], argTypes := #[dT, sT] }) {elem : TypeId} [hu : TySl P dT elem] {size : Nat} [hs : TySz P elem size]
    (g off dLen dCap b so sLen sCap : Nat) (hd : a.eval d = .slice (some ⟨g, off, none⟩) dLen dCap) (hsv : a.eval s = .slice (some ⟨b, so, none⟩) sLen sCap) {T Ts : TypeId} {l ls : List Value} [hg : Has L g T l] [hb : Has L b Ts ls]
    (m : Nat) (hm : Nat.min sLen dLen = m) (cs l' : List Value) {L' : Mem} (hc : (ls.drop so).take (m * size) = cs) (hcf : so + m * size ≤ ls.length) (hf : off + m * size ≤ l.length) (h1 : ∀ v ∈ cs, v.oneCell' = true) (hp : splice l off cs = l') [hup : Upd L g T l l' L']
    (h : ∀ w', Kn F w0 w' L' → wpList P ops Q rest (a.put o.dst (.int .i64 (m : Nat))) w') : wpList P ops Q (o :: rest) a w :=
  haveI : Part ls so (m * size) cs := ⟨hc, hcf⟩
  haveI : Spl l off (m * size) cs l' := ⟨hp, hf, by rw [← hc, List.length_take, List.length_drop]; omega⟩
  haveI : Ones cs := ⟨h1⟩
  KL_copy hK hgd d s dT sT ho g off dLen dCap b so sLen sCap hd hsv (m * size) m hm rfl h
theorem KO_cp (hK : Kn F w0 w L) (d s : Operand) (dT sT : TypeId) (ho : o.op = .call { callee := .builtin .copy, args := #[d, s], argTypes := #[dT, sT] }) {elem : TypeId} [hu : TySl P dT elem] {size : Nat} [hs : TySz P elem size]
    (g off dLen dCap b so sLen sCap : Nat) (hd : a.eval d = .slice (some ⟨g, off, none⟩) dLen dCap) (hsv : a.eval s = .slice (some ⟨b, so, none⟩) sLen sCap) {T Ts : TypeId} {l ls : List Value} [hg : Has L g T l] [hb : Has L b Ts ls]
    (m : Nat) (hm : Nat.min sLen dLen = m) (cs l' : List Value) {L' : Mem} (hc : (ls.drop so).take (m * size) = cs) (hcf : so + m * size ≤ ls.length) (hf : off + m * size ≤ l.length) (h1 : ∀ v ∈ cs, v.oneCell' = true) (hp : splice l off cs = l') [hup : Upd L g T l l' L']
    (h : ∀ w', Kn F w0 w' L' → K (a.put o.dst (.int .i64 (m : Nat))) w') : Oper.wp P o a w K Q :=
  haveI : Part ls so (m * size) cs := ⟨hc, hcf⟩
  haveI : Spl l off (m * size) cs l' := ⟨hp, hf, by rw [← hc, List.length_take, List.length_drop]; omega⟩
  haveI : Ones cs := ⟨h1⟩
  KO_copy hK d s dT sT ho g off dLen dCap b so sLen sCap hd hsv (m * size) m hm rfl h
/-- clear of a slice that has elements. -/
theorem KL_clear {g T : Nat} {l : List Value} (hK : Kn F w0 w ((g, T, l) :: L)) (hgd : Region.wanted o (yielded ops a.tmps) = true) (s : Operand) (t : TypeId) (ho : o.op = .call { callee := .builtin .clear, args := #[s], argTypes := #[t] }) {e size bytes : Nat} [ht : TySl P t e] [he : TyEl P e size bytes] {z : List Value} [hz : TyZ P e z] (h1 : ∀ v ∈ z, v.oneCell' = true)
    (off n c : Nat) (hs : a.eval s = .slice (some ⟨g, off, none⟩) (n + 1) c) (hf : off + (n + 1) * size ≤ l.length)
    (h : ∀ cs w', cs.length = (n + 1) * size → Kn F w0 w' ((g, T, splice l off cs) :: L) → wpList P ops Q rest (a.put o.dst (.tuple #[])) w') : wpList P ops Q (o :: rest) a w :=
  wpList_want hgd fun _ hk => by
    obtain ⟨i, z', hi, hz', hsz, hbt, hzs⟩ := el_of he
    obtain ⟨z2, hz2, hzl⟩ := zero_of hz
    rw [hi] at hz2
    simp only [Option.map_some, hz', Option.some.injEq] at hz2
    subst hz2 hzl
    have hB : Blk w g T l := hK.has
    have hl : (Builtin.zeroCells z'.cells (n + 1)).toList.length = (n + 1) * size := by rw [zeroCells_length, hzs]
    have hone : ∀ v ∈ (Builtin.zeroCells z'.cells (n + 1)).toList, v.oneCell' = true := by
      intro v hv
      simp only [Builtin.zeroCells, Array.toList_map, List.mem_map, Array.mem_toList_iff, Array.mem_range] at hv
      obtain ⟨j, hj, rfl⟩ := hv
      have hp : 0 < z'.cells.size := by rw [hzs]; exact he.pos
      have hlt : j % z'.cells.size < z'.cells.size := Nat.mod_lt _ hp
      rw [getElem!_pos z'.cells _ hlt]
      exact h1 _ (by simp)
    have hst := run_storeCells_at P g off T (Builtin.zeroCells z'.cells (n + 1)).toList 0 l.toArray w hB (by rw [hl]; simpa using hf) hone
    simp only [Nat.add_zero] at hst
    have e1 : (l.toArray.toList.take off ++ (Builtin.zeroCells z'.cells (n + 1)).toList ++ l.toArray.toList.drop (off + (Builtin.zeroCells z'.cells (n + 1)).toList.length)).toArray = (splice l off (Builtin.zeroCells z'.cells (n + 1)).toList).toArray := by simp [splice]
    rw [e1] at hst
    have hr : (Builtin.clear_ #[t] o.type #[.slice (some ⟨g, off, none⟩) (n + 1) c]).run P w = .ok (.tuple #[]) (w.setRow g (splice l off (Builtin.zeroCells z'.cells (n + 1)).toList).toArray) := by
      simp [Builtin.clear_, run_underlying ht.out, zeroValue, typeInfo, hi, hz', hst]
    unfold Oper.wp execOp
    simp only [ho, resolve, invoke, builtin, Sem.run_bind, Sem.run_pure, Result.andThen_ok, List.map_toArray, List.map_cons, List.map_nil, hs, hr]
    exact hk _ _ (h _ _ hl (Kn.wrote (b := g) (T := T) (l := l) (L := (g, T, l) :: L) hK (wrote_setRow _) (hB.setRow _)))
end
theorem part_tail {xs junk : List Value} {n i z : Nat} (hx : xs.length = n * z) (hi : i ≤ n) : ((xs ++ junk).drop (i * z)).take ((n - i) * z) = xs.drop (i * z) := by
  have hle : i * z ≤ n * z := Nat.mul_le_mul_right _ hi
  rw [List.drop_append_of_le_length (by omega), Nat.sub_mul, List.take_append_of_le_length (by rw [List.length_drop]; omega), List.take_of_length_le (by rw [List.length_drop]; omega)]
/-! ### What Insert and Delete do to the cells -/
theorem ins_cells {xs junk ys : List Value} {n i z : Nat} (hx : xs.length = n * z) (hi : i < n) (hy : ys.length = z) (hj : z ≤ junk.length) :
    splice (splice (xs ++ junk) ((i + 1) * z) (xs.drop (i * z))) (i * z) ys = (xs.take (i * z) ++ (ys ++ xs.drop (i * z))) ++ junk.drop z := by
  have hle : i * z + z ≤ n * z := by rw [← Nat.succ_mul]; exact Nat.mul_le_mul_right _ hi
  obtain ⟨A, hA⟩ : ∃ A, A = xs.take (i * z) := ⟨_, rfl⟩
  obtain ⟨B, hB⟩ : ∃ B, B = xs.drop (i * z) := ⟨_, rfl⟩
  have hAl : A.length = i * z := by rw [hA, List.length_take]; omega
  have hBl : B.length = n * z - i * z := by rw [hB, List.length_drop, hx]
  have hxs : xs = A ++ B := by rw [hA, hB, List.take_append_drop]
  rw [← hA, ← hB, hxs]
  have e1 : splice (A ++ B ++ junk) ((i + 1) * z) B = (A ++ B.take z) ++ (B ++ junk.drop z) := by
    refine splice_at (mid := B.drop z ++ junk.take z) ?_ ?_ ?_
    · rw [List.append_assoc, List.append_assoc, List.append_assoc, List.take_append_drop, ← List.append_assoc (B.take z), List.take_append_drop]
    · rw [List.length_append, List.length_take, hAl, Nat.succ_mul]; omega
    · rw [List.length_append, List.length_drop, List.length_take]; omega
  rw [e1]
  have e2 : splice ((A ++ B.take z) ++ (B ++ junk.drop z)) (i * z) ys = A ++ (ys ++ (B ++ junk.drop z)) :=
    splice_at (mid := B.take z) (by simp) hAl (by rw [List.length_take]; omega)
  rw [e2]; simp
theorem ins_cells' {xs junk ys : List Value} {n i z : Nat} (hx : xs.length = n * z) (hi : i < n) (hy : ys.length = z) (hj : n * z - i * z + z ≤ junk.length) :
    splice (splice (xs.take (i * z) ++ junk) (i * z) ys) ((i + 1) * z) (xs.drop (i * z)) = (xs.take (i * z) ++ (ys ++ xs.drop (i * z))) ++ junk.drop (n * z - i * z + z) := by
  have hle : i * z + z ≤ n * z := by rw [← Nat.succ_mul]; exact Nat.mul_le_mul_right _ hi
  obtain ⟨A, hA⟩ : ∃ A, A = xs.take (i * z) := ⟨_, rfl⟩
  obtain ⟨B, hB⟩ : ∃ B, B = xs.drop (i * z) := ⟨_, rfl⟩
  have hAl : A.length = i * z := by rw [hA, List.length_take]; omega
  have hBl : B.length = n * z - i * z := by rw [hB, List.length_drop, hx]
  rw [← hA, ← hB]
  have e1 : splice (A ++ junk) (i * z) ys = A ++ (ys ++ junk.drop z) :=
    splice_at (mid := junk.take z) (by simp) hAl (by rw [List.length_take]; omega)
  rw [e1]
  have e2 : splice (A ++ (ys ++ junk.drop z)) ((i + 1) * z) B = (A ++ ys) ++ (B ++ junk.drop (n * z - i * z + z)) := by
    refine splice_at (mid := (junk.drop z).take B.length) ?_ ?_ ?_
    · rw [List.append_assoc, show junk.drop (n * z - i * z + z) = (junk.drop z).drop B.length by rw [List.drop_drop, hBl, Nat.add_comm], List.take_append_drop]
    · rw [List.length_append, hAl, hy, Nat.succ_mul]
    · rw [List.length_take, List.length_drop]; omega
  rw [e2]; simp
theorem del_cells {xs junk zs : List Value} {n i z : Nat} (hx : xs.length = n * z) (hi : i < n) (hz : zs.length = 1 * z) :
    splice (splice (xs ++ junk) (i * z) (xs.drop ((i + 1) * z))) ((n - 1) * z) zs = (xs.take (i * z) ++ xs.drop ((i + 1) * z)) ++ (zs ++ junk) := by
  rw [Nat.one_mul] at hz
  have h1 : (i + 1) * z = i * z + z := Nat.succ_mul i z
  have hle : (i + 1) * z ≤ n * z := Nat.mul_le_mul_right _ hi
  have h2 : (n - 1) * z = n * z - z := by rw [Nat.sub_mul, Nat.one_mul]
  obtain ⟨A, hA⟩ : ∃ A, A = xs.take (i * z) := ⟨_, rfl⟩
  obtain ⟨D, hD⟩ : ∃ D, D = xs.drop ((i + 1) * z) := ⟨_, rfl⟩
  obtain ⟨B, hB⟩ : ∃ B, B = (xs.drop (i * z)).take z := ⟨_, rfl⟩
  have hAl : A.length = i * z := by rw [hA, List.length_take]; omega
  have hDl : D.length = n * z - (i + 1) * z := by rw [hD, List.length_drop, hx]
  have hBl : B.length = z := by rw [hB, List.length_take, List.length_drop]; omega
  have hxs : xs = A ++ (B ++ D) := by
    rw [hA, hB, hD, h1, ← List.drop_drop, List.take_append_drop, List.take_append_drop]
  rw [← hA, ← hD, hxs]
  have e1 : splice (A ++ (B ++ D) ++ junk) (i * z) D = A ++ (D ++ ((B ++ D).drop D.length ++ junk)) := by
    refine splice_at (mid := (B ++ D).take D.length) ?_ hAl ?_
    · rw [← List.append_assoc ((B ++ D).take D.length), List.take_append_drop, List.append_assoc]
    · rw [List.length_take, List.length_append]; omega
  rw [e1]
  have e2 : splice (A ++ (D ++ ((B ++ D).drop D.length ++ junk))) ((n - 1) * z) zs = (A ++ D) ++ (zs ++ junk) := by
    refine splice_at (mid := (B ++ D).drop D.length) (by simp) ?_ ?_
    · rw [List.length_append]; omega
    · rw [List.length_drop, List.length_append]; omega
  exact e2
theorem del_cells1 {xs junk zs : List Value} {n i : Nat} (hx : xs.length = n) (hi : i < n) (hz : zs.length = 1) :
    splice (splice (xs ++ junk) i (xs.drop (i + 1))) (n - 1) zs = (xs.take i ++ xs.drop (i + 1)) ++ (zs ++ junk) := by
  have := del_cells (z := 1) (xs := xs) (junk := junk) (zs := zs) (n := n) (i := i) (by omega) hi (by omega)
  simpa only [Nat.mul_one] using this
theorem part_tail1 {xs junk : List Value} {n i : Nat} (hx : xs.length = n) (hi : i ≤ n) : ((xs ++ junk).drop i).take ((n - i) * 1) = xs.drop i := by
  have := part_tail (junk := junk) (z := 1) (xs := xs) (n := n) (i := i) (by omega) hi
  simpa only [Nat.mul_one] using this
theorem ins_cells1 {xs junk ys : List Value} {n i : Nat} (hx : xs.length = n) (hi : i < n) (hy : ys.length = 1) (hj : 1 ≤ junk.length) :
    splice (splice (xs ++ junk) (i + 1) (xs.drop i)) i ys = (xs.take i ++ (ys ++ xs.drop i)) ++ junk.drop 1 := by
  have := ins_cells (z := 1) (xs := xs) (n := n) (i := i) (by omega) hi hy hj
  simpa only [Nat.mul_one] using this
theorem ins_cells1' {xs junk ys : List Value} {n i : Nat} (hx : xs.length = n) (hi : i < n) (hy : ys.length = 1) (hj : n - i + 1 ≤ junk.length) :
    splice (splice (xs.take i ++ junk) i ys) (i + 1) (xs.drop i) = (xs.take i ++ (ys ++ xs.drop i)) ++ junk.drop (n - i + 1) := by
  have := ins_cells' (z := 1) (xs := xs) (junk := junk) (ys := ys) (n := n) (i := i) (by omega) hi hy (by omega)
  simpa only [Nat.mul_one] using this
/-! ### Results: a temporary and a cell -/
theorem results_tmp_cell {P : Program} {fn : Func} {x t : Tmp} {T : TypeId} (hr : fn.results = #[.tmp t, .cell x T]) {tmps : Array Value} {w : World} {b : Nat} {Tb : TypeId} {l : List Value} (hb : Blk w b Tb l) {d : TypeDesc} (hu : P.underlying T = some d) (hd : d.isRow = true)
    (hi : (P.info? T).map (·.size) = some l.length) (hx : tmps.getD x undef = .pointer (some ⟨b, 0, none⟩)) : (results fn tmps).run P w = .ok (.tuple #[tmps.getD t undef, .agg l.toArray]) w := by
  have := run_loadVar_mid (P := P) w b 0 T l d (fun j v hv => by rw [hb.cell, Nat.zero_add]; exact hv) hu hd hi
  rw [Array.getD_eq_getD_getElem?] at hx
  simp [results, hr, hx, asAddr, this]
theorem KR_tc {P : Program} {a : Act} {w w0 : World} {F : Nat → Prop} {L : Mem} (hK : Kn F w0 w L) {fn : Func} {R : Ending → World → Prop} {x t : Tmp} {T : TypeId} (hr : fn.results = #[.tmp t, .cell x T]) {b : Nat} (hx : a.tmps.getD x undef = .pointer (some ⟨b, 0, none⟩)) {Tb : TypeId} {l : List Value} {n : Nat} [hb : Has L b Tb l] [ht : TyRow P T] [hn : TySz P T n] [hp : Part l 0 n l]
    (hde : a.defers = []) (hR : R (.returned (.tuple #[a.tmps.getD t undef, .agg l.toArray])) w) : bodyPost P fn R .ret a w := by
  obtain ⟨d, hu, hd⟩ := isRow_of ht
  exact bodyPost_ret (results_tmp_cell hr hK.has hu hd (part_whole hp ▸ hn.out) hx) hde hR
/-! ### The ways through a region meet again, a slice in hand -/
section
variable {P : Program} {a : Act} {w : World} {Q : Exit → Act → World → Prop} {F : Nat → Prop} {w0 : World} {L : Mem}
def Ends3 (F : Nat → Prop) (w0 : World) (A : Nat → Value → Act) (R : Value → Mem → Prop) (L : Nat → Value → Mem → Mem) : Exit → Act → World → Prop
  | .normal, a, w => ∃ x v M, a = A x v ∧ R v M ∧ Kn F w0 w (L x v M)
  | _, _, _ => False
theorem wp_meet3 (_ : Kn F w0 w L) {c : Code} (A : Nat → Value → Act) (R : Value → Mem → Prop) (L' : Nat → Value → Mem → Mem) (h : c.wp P (Ends3 F w0 A R L') a w) (k : ∀ x v M w', R v M → Kn F w0 w' (L' x v M) → Q .normal (A x v) w') : c.wp P Q a w :=
  Code.wp_mono (fun e a' w' h' => by
    cases e with
    | normal => obtain ⟨x, v, M, rfl, h1, h2⟩ := h'; exact k x v M w' h1 h2
    | _ => exact h'.elim) h
end
/-! ### overlaps: two slices in two blocks do not -/
theorem shape_blk {w : World} {b T : Nat} {l : List Value} (h : Blk w b T l) : w.shape? b = some (T, l.length) := by
  unfold World.shape?; rw [show w.heap[b]? = _ from h]; simp
theorem run_apart {P : Program} {w : World} {t tR e size : Nat} [ht : TySl P t e] (hz : (P.info? e).map (·.size) = some size) {a b oa ob la ca lb cb Ta Tb : Nat} {l l' : List Value} (ha : Blk w a Ta l) (hb : Blk w b Tb l') (hne : a ≠ b) (h0 : l'.length ≠ 0) :
    (Extern.SlicesOverlaps.overlaps #[t, t] #[tR] #[.slice (some ⟨a, oa, none⟩) la ca, .slice (some ⟨b, ob, none⟩) lb cb]).run P w = .ok (.bool false) w := by
  obtain ⟨i, hi, hs⟩ := Option.map_eq_some_iff.1 hz
  refine Lib.run_overlaps_apart w t tR e ht.out size (fun w => by simp [sizeOf, typeInfo, hi, hs]) ⟨a, oa, none⟩ ⟨b, ob, none⟩ la ca lb cb hne Ta Tb l.length l'.length (shape_blk ha) (shape_blk hb) h0 (ha.frozen _) (ha.frozen _)
end Go.Proofs.Ytpkhomfblilkhaa.E
