/- Laws of no program: slices of the call's own over memory known as a list of whole blocks: literals, append. Conditions: what each names. -/
import Derived.Test.YtpkhomfblilkhaaK3
import Derived.Maps.AppendAt
import Derived.Great.BuildSlice
namespace Go.Proofs.Ytpkhomfblilkhaa.E
set_option linter.all false
open Go Go.RowKit

/-- What a program tells of an element's type. -/
class TyEl (P : Program) (e : TypeId) (size bytes : outParam Nat) : Prop where
  out : (P.info? e).map (fun i => (i.zero.map (·.cells.size), i.size, i.bytes)) = some (some size, size, bytes)
  pos : 0 < size
theorem el_of {P : Program} {e : TypeId} {size bytes : Nat} (h : TyEl P e size bytes) : ∃ i z, P.info? e = some i ∧ i.zero = some z ∧ i.size = size ∧ i.bytes = bytes ∧ z.cells.size = size := by
  obtain ⟨i, hi, h1⟩ := Option.map_eq_some_iff.1 h.out
  simp only [Prod.mk.injEq] at h1
  obtain ⟨z, hz, h2⟩ := Option.map_eq_some_iff.1 h1.1
  exact ⟨i, z, hi, hz, h1.2.1, h1.2.2, h2⟩

instance {M L b T l} [h : Has L b T l] : Has (M ++ L) b T l := ⟨List.mem_append_right _ h.out⟩
instance {M L b T l l' L'} [h : Upd L b T l l' L'] : Upd (M ++ L) b T l l' (M ++ L') := ⟨by
  obtain ⟨p, q, rfl, rfl⟩ := h.out; exact ⟨M ++ p, q, by simp, by simp⟩⟩
instance {b T l M L} : Has (((b, T, l) :: M) ++ L) b T l := ⟨.head _⟩
instance {b T l l' M L} : Upd (((b, T, l) :: M) ++ L) b T l l' (((b, T, l') :: M) ++ L) := ⟨[], M ++ L, rfl, rfl⟩
instance {M L' L : Mem} [h : Sub L' L] : Sub (M ++ L') (M ++ L) := ⟨h.out.append_left M⟩
instance {M L' L : Mem} [h : Sub L' L] : Sub L' (M ++ L) := ⟨h.out.trans (List.sublist_append_right _ _)⟩

/-- A slice of the call's own: n elements of type e, of size cells each, reading xs; M: its block. -/
inductive OwnV (e : TypeId) (size n : Nat) (xs : List Value) : Value → Mem → Prop
  | nil (hn : n = 0) (hx : xs = []) : OwnV e size n xs (.slice none 0 0) []
  | row (g cap : Nat) (junk : List Value) (hx : xs.length = n * size) (hc : (xs ++ junk).length = cap * size) (hn : n ≤ cap) (hm : cap ≤ maxLen) : OwnV e size n xs (.slice (some ⟨g, 0, none⟩) n cap) [(g, e, xs ++ junk)]
theorem OwnV.zero (e : TypeId) (size : Nat) : OwnV e size 0 [] (.slice none 0 0) [] := .nil rfl rfl
theorem OwnV.whole {e : TypeId} {size : Nat} {g n : Nat} {xs : List Value} (hx : xs.length = n * size) (hm : n ≤ maxLen) : OwnV e size n xs (.slice (some ⟨g, 0, none⟩) n n) [(g, e, xs)] := by
  have := OwnV.row (e := e) (xs := xs) g n [] hx (by simpa using hx) (Nat.le_refl _) hm
  rwa [List.append_nil] at this
theorem OwnV.len {e : TypeId} {size n : Nat} {xs : List Value} {v : Value} {M : Mem} (h : OwnV e size n xs v M) : xs.length = n * size := by
  cases h with
  | nil hn hx => subst hn hx; simp
  | row g cap junk hx => exact hx
theorem OwnV.owns {e : TypeId} {size n : Nat} {xs : List Value} {v : Value} {M : Mem} (h : OwnV e size n xs v M) {w : World} (hb : ∀ x ∈ M, Blk w x.1 x.2.1 x.2.2) : w.ownsRow 0 e size v n xs := by
  refine ⟨h.len, ?_⟩
  cases h with
  | nil hn hx => exact .inl ⟨rfl, hn⟩
  | row g cap junk hx hc hn hm =>
    refine .inr ⟨g, cap, (xs ++ junk).toArray, rfl, Nat.zero_le _, hb _ (List.mem_cons_self ..), hn, hm, by simpa using hc, ?_⟩
    rw [← hx]; simp
theorem OwnV.ownBlock {e : TypeId} {size n : Nat} {xs : List Value} {v : Value} {M : Mem} (h : OwnV e size n xs v M) : ∀ k, v.ownBlock = some k ↔ ∃ x ∈ M, x.1 = k := by
  intro k
  cases h with
  | nil => simp [Value.ownBlock]
  | row g cap junk => simp [Value.ownBlock]
theorem OwnV.of_owns {w : World} {e : TypeId} {size n : Nat} {xs : List Value} {v : Value} (h : w.ownsRow 0 e size v n xs) : ∃ M, OwnV e size n xs v M ∧ ∀ x ∈ M, Blk w x.1 x.2.1 x.2.2 := by
  rcases h.2 with ⟨rfl, rfl⟩ | ⟨g, cap, cur, rfl, _, hg, hn, hm, hs, ht⟩
  · exact ⟨[], .nil rfl (List.eq_nil_of_length_eq_zero (by simpa using h.1)), by simp⟩
  · have e1 : xs ++ cur.toList.drop (n * size) = cur.toList := by rw [← ht]; exact List.take_append_drop _ _
    refine ⟨_, .row g cap (cur.toList.drop (n * size)) h.1 (by rw [e1]; simpa using hs) hn hm, ?_⟩
    intro x hx
    obtain rfl := List.mem_singleton.1 hx
    unfold Blk
    simp only [e1]
    exact hg

theorem Kn.perm {F : Nat → Prop} {w0 w : World} {L L' : Mem} (hK : Kn F w0 w L) (h : L.Perm L') : Kn F w0 w L' :=
  ⟨hK.only, fun x hx => hK.blk x (h.mem_iff.2 hx), fun x hx => hK.own x (h.mem_iff.2 hx), (h.map _).nodup hK.nd⟩
theorem Kn.cg0 {F : Nat → Prop} {w0 w : World} {b : Nat} {T : TypeId} {l l' : List Value} {L : Mem} (hK : Kn F w0 w ((b, T, l) :: L)) (e : l = l') : Kn F w0 w ((b, T, l') :: L) := e ▸ hK
theorem Kn.swap {F : Nat → Prop} {w0 w : World} {M1 M2 L : Mem} (hK : Kn F w0 w (M1 ++ (M2 ++ L))) : Kn F w0 w (M2 ++ (M1 ++ L)) := by
  refine hK.perm ?_
  rw [← List.append_assoc, ← List.append_assoc]
  exact List.perm_append_comm.append_right L
theorem Kn.tail {F : Nat → Prop} {w0 w : World} {M L : Mem} (hK : Kn F w0 w (M ++ L)) : Kn F w0 w L := hK.sub (List.sublist_append_right _ _)

/-- What an append leaves. -/
theorem Kn.grown {F : Nat → Prop} {w0 w w' : World} {M L : Mem} (hK : Kn F w0 w (M ++ L)) {e : TypeId} {size n m : Nat} {xs ys : List Value} {v v' : Value} (hO : OwnV e size n xs v M) (ho' : w'.ownsRow 0 e size v' m ys) (hg : w.grownBy w' v.ownBlock)
    (hb : v'.ownBlock = v.ownBlock ∨ v'.ownBlock = some w.heap.size) : ∃ M', OwnV e size m ys v' M' ∧ Kn F w0 w' (M' ++ L) := by
  obtain ⟨M', hO', hB'⟩ := OwnV.of_owns ho'
  refine ⟨M', hO', ?_⟩
  have hne : ∀ x ∈ L, some x.1 ≠ v.ownBlock := by
    intro x hx he
    obtain ⟨y, hy, hxy⟩ := (hO.ownBlock x.1).1 he.symm
    have := hK.nd
    rw [List.map_append, List.nodup_append] at this
    exact this.2.2 y.1 (List.mem_map.2 ⟨y, hy, rfl⟩) x.1 (List.mem_map.2 ⟨x, hx, rfl⟩) hxy
  have hM' : ∀ x ∈ M', (∃ y ∈ M, y.1 = x.1) ∨ x.1 = w.heap.size := by
    intro x hx
    have h1 := (hO'.ownBlock x.1).2 ⟨x, hx, rfl⟩
    rcases hb with hb | hb
    · rw [hb] at h1
      exact .inl ((hO.ownBlock x.1).1 h1)
    · rw [hb] at h1
      exact .inr (Option.some.inj h1).symm
  have hlt : ∀ x ∈ L, x.1 < w.heap.size := fun x hx => hK.lt (List.mem_append_right _ hx)
  have hMlt : ∀ y ∈ M, y.1 < w.heap.size := fun y hy => hK.lt (List.mem_append_left _ hy)
  refine ⟨hK.only.step hg.os hg.tape hg.output hg.size ?_, ?_, ?_, ?_⟩
  · intro k hk hf
    refine hg.block k (Nat.lt_of_lt_of_le hk hK.only.size) (fun he => ?_)
    obtain ⟨y, hy, hyk⟩ := (hO.ownBlock k).1 he.symm
    exact hf (hyk ▸ hK.own y (List.mem_append_left _ hy) (hyk ▸ hk))
  · intro x hx
    rcases List.mem_append.1 hx with hx | hx
    · exact hB' x hx
    · exact (hg.block x.1 (hlt x hx) (hne x hx)).trans (hK.blk x (List.mem_append_right _ hx))
  · intro x hx h0
    rcases List.mem_append.1 hx with hx | hx
    · rcases hM' x hx with ⟨y, hy, hyx⟩ | h1
      · exact hyx ▸ hK.own y (List.mem_append_left _ hy) (hyx ▸ h0)
      · exact absurd h0 (by rw [h1]; exact Nat.not_lt.2 hK.only.size)
    · exact hK.own x (List.mem_append_right _ hx) h0
  · have hnd := hK.nd
    rw [List.map_append, List.nodup_append] at hnd ⊢
    refine ⟨?_, hnd.2.1, ?_⟩
    · cases hO' with
      | nil => simp
      | row => simp
    · intro a ha b hb' hab
      obtain ⟨x, hx, rfl⟩ := List.mem_map.1 ha
      obtain ⟨z, hz, rfl⟩ := List.mem_map.1 hb'
      rcases hM' x hx with ⟨y, hy, hyx⟩ | h1
      · exact hnd.2.2 y.1 (List.mem_map.2 ⟨y, hy, rfl⟩) z.1 (List.mem_map.2 ⟨z, hz, rfl⟩) (hyx.trans hab)
      · have := hlt z hz
        omega

section
variable {P : Program} {ops : Array Oper} {rest : List Oper} {o : Oper} {a : Act} {w : World} {Q : Exit → Act → World → Prop} {K : Act → World → Prop} {F : Nat → Prop} {w0 : World} {L M : Mem}

/-- append of m elements that lie in a block known whole. -/
theorem KO_append (hK : Kn F w0 w (M ++ L)) {e : TypeId} {size bytes n : Nat} {xs : List Value} {v : Value} (hO : OwnV e size n xs v M) (s x : Operand) (t : TypeId) (ho : o.op = .call { callee := .builtin .append, args := #[s, x], argTypes := #[t, t] }) [ht : TySl P t e] [he : TyEl P e size bytes]
    (hs : a.eval s = v) (b off m c : Nat) (hx : a.eval x = .slice (some ⟨b, off, none⟩) m c) {Tb : TypeId} {lb news : List Value} (q : Nat) (hq : m * size = q) [hb : Has L b Tb lb] [hp : Part lb off q news] [h1 : Ones news]
    (h63 : n + m ≤ maxLen) (hby : (n + m) * bytes ≤ 140737488355328)
    (h : ∀ v' M' w', OwnV e size (n + m) (xs ++ news) v' M' → Kn F w0 w' (M' ++ L) → K (a.put o.dst v') w') : Oper.wp P o a w K Q := by
  obtain ⟨i, z, hi, hz, hsz, hbt, hzs⟩ := el_of he
  have hbk : Blk w b Tb lb := (hK.tail).has
  have hnl : news.length = m * size := by
    rw [← hp.out, List.length_take, List.length_drop, hq]; have := hp.fit; omega
  obtain ⟨v', w', hr, h2, h3, _, h5⟩ := run_append_own_at (P := P) w 0 t o.type e i z size bytes ht.out hi hz hsz hbt hzs he.pos v n xs (hO.owns (fun x hx => hK.blk x (List.mem_append_left _ hx))) ⟨b, off, none⟩ m c news hnl
    (fun j u hu => by
      rw [Addr.add_mid, hbk.cell, ← hu, ← hp.out, List.getElem?_take, List.getElem?_drop]
      have : j < news.length := (List.getElem?_eq_some_iff.1 hu).1
      rw [if_pos (by omega)])
    h1.out h63 hby (Nat.zero_le _)
  obtain ⟨M', hO', hK'⟩ := hK.grown hO h2 h3 h5
  unfold Oper.wp execOp
  simp only [ho, resolve, invoke, builtin, Sem.run_bind, Sem.run_pure, Result.andThen_ok, List.map_toArray, List.map_cons, List.map_nil, hs, hx, hr]
  exact h v' M' w' hO' hK'
theorem KL_append (hK : Kn F w0 w (M ++ L)) {e : TypeId} {size bytes n : Nat} {xs : List Value} {v : Value} (hO : OwnV e size n xs v M) (hgd : Region.wanted o (yielded ops a.tmps) = true) (s x : Operand) (t : TypeId) (ho : o.op = .call { callee := .builtin .append, args := #[s, x], argTypes := #[t, t] }) [ht : TySl P t e] [he : TyEl P e size bytes]
    (hs : a.eval s = v) (b off m c : Nat) (hx : a.eval x = .slice (some ⟨b, off, none⟩) m c) {Tb : TypeId} {lb news : List Value} (q : Nat) (hq : m * size = q) [hb : Has L b Tb lb] [hp : Part lb off q news] [h1 : Ones news]
    (h63 : n + m ≤ maxLen) (hby : (n + m) * bytes ≤ 140737488355328)
    (h : ∀ v' M' w', OwnV e size (n + m) (xs ++ news) v' M' → Kn F w0 w' (M' ++ L) → wpList P ops Q rest (a.put o.dst v') w') : wpList P ops Q (o :: rest) a w :=
  wpList_want hgd fun _ hk => KO_append hK hO s x t ho hs b off m c hx q hq h63 hby fun v' M' w' h1 h2 => hk _ _ (h v' M' w' h1 h2)

/-- A slice literal. -/
class BSl (P : Program) (T : TypeId) (len : Nat) (vs : List (Nat × Value)) (e : outParam TypeId) (l : outParam (List Value)) : Prop where
  out : ∀ w, (Instr.buildSlice T len vs.toArray).run P w = .ok (.slice (some ⟨w.heap.size, 0, none⟩) len len) (w.alloc (.cells l.toArray e))
theorem KO_buildSlice (hK : Kn F w0 w L) (T : TypeId) (len : Nat) (parts : Array (Nat × Operand)) (ho : o.op = .buildSlice T len parts) (vs : List (Nat × Value)) (hv : parts.toList.map (fun p => (p.1, a.eval p.2)) = vs) {e : TypeId} {l : List Value} [hb : BSl P T len vs e l]
    (h : ∀ b w', Kn F w0 w' ((b, e, l) :: L) → K (a.put o.dst (.slice (some ⟨b, 0, none⟩) len len)) w') : Oper.wp P o a w K Q := by
  have hv' : parts.map (fun (i, x) => (i, a.eval x)) = vs.toArray := by rw [← hv]; apply Array.ext'; simp
  unfold Oper.wp execOp
  simp only [ho, hv', Sem.run_bind, hb.out, Result.andThen_ok, Sem.run_pure]
  exact h _ _ (hK.made (made_alloc w e l.toArray))
theorem bsl_dense {T e size bytes : Nat} [ht : TySl P T e] [he : TyEl P e size bytes] (vs : List Value) (h1 : ∀ v ∈ vs, v.cells.size = size) (hlen : vs.length * size ≤ 16777216) (hpos : 0 < vs.length) (w : World) :
    (Instr.buildSlice T vs.length ((vs.zipIdx 0).map fun x => (x.2, x.1)).toArray).run P w = .ok (.slice (some ⟨w.heap.size, 0, none⟩) vs.length vs.length) (w.alloc (.cells (vs.flatMap fun v => v.cells.toList).toArray e)) := by
  obtain ⟨i, z, hi, hz, hsz, hbt, hzs⟩ := el_of he
  have hp := he.pos
  refine run_buildSlice w T e _ _ _ i z ht.out hi hz (by rw [hsz]; omega) (by rw [hsz]; exact Nat.ne_of_gt (Nat.mul_pos hpos hp)) ?_
  rw [hsz, List.toList_toArray]
  exact Great.fill_whole hp vs _ h1 (by simp)
class Size1 (v : Value) : Prop where out : v.cells = #[v]
instance {k n} : Size1 (.int k n) := ⟨rfl⟩
instance {n} : Size1 (.string n) := ⟨rfl⟩
instance {k n c} : Size1 (.slice k n c) := ⟨rfl⟩
instance {k n} : Size1 (.iface k n) := ⟨rfl⟩
instance {n} : Size1 (.pointer n) := ⟨rfl⟩
instance {T e bytes : Nat} {v : Value} [ht : TySl P T e] [he : TyEl P e 1 bytes] [h : Size1 v] : BSl P T 1 [(0, v)] e [v] :=
  ⟨fun w => by have := bsl_dense (P := P) (T := T) [v] (by simp [h.out]) (by simp) (by simp) w; simpa [h.out] using this⟩
instance {T e bytes : Nat} {v u : Value} [ht : TySl P T e] [he : TyEl P e 1 bytes] [h : Size1 v] [k : Size1 u] : BSl P T 2 [(0, v), (1, u)] e [v, u] :=
  ⟨fun w => by have := bsl_dense (P := P) (T := T) [v, u] (by simp [h.out, k.out]) (by simp) (by simp) w; simpa [h.out, k.out] using this⟩
theorem KL_bs1 (hK : Kn F w0 w L) (hgd : Region.wanted o (yielded ops a.tmps) = true) (T : TypeId) (k0 : Nat) (x0 : Operand) (ho : o.op = .buildSlice T 1 #[(k0, x0)]) (v0 : Value) (h0 : a.eval x0 = v0) {e : TypeId} {l : List Value} [hb : BSl P T 1 [(k0, v0)] e l]
    (h : ∀ b w', Kn F w0 w' ((b, e, l) :: L) → wpList P ops Q rest (a.put o.dst (.slice (some ⟨b, 0, none⟩) 1 1)) w') : wpList P ops Q (o :: rest) a w :=
  wpList_want hgd fun _ hk => KO_buildSlice hK T 1 _ ho _ (by simp only [List.map_cons, List.map_nil, h0]; rfl) fun b w' h' => hk _ _ (h b w' h')
theorem KL_bs2 (hK : Kn F w0 w L) (hgd : Region.wanted o (yielded ops a.tmps) = true) (T : TypeId) (k0 k1 : Nat) (x0 x1 : Operand) (ho : o.op = .buildSlice T 2 #[(k0, x0), (k1, x1)]) (v0 v1 : Value) (h0 : a.eval x0 = v0) (h1 : a.eval x1 = v1) {e : TypeId} {l : List Value} [hb : BSl P T 2 [(k0, v0), (k1, v1)] e l]
    (h : ∀ b w', Kn F w0 w' ((b, e, l) :: L) → wpList P ops Q rest (a.put o.dst (.slice (some ⟨b, 0, none⟩) 2 2)) w') : wpList P ops Q (o :: rest) a w :=
  wpList_want hgd fun _ hk => KO_buildSlice hK T 2 _ ho _ (by simp only [List.map_cons, List.map_nil, h0, h1]; rfl) fun b w' h' => hk _ _ (h b w' h')
end
end Go.Proofs.Ytpkhomfblilkhaa.E
