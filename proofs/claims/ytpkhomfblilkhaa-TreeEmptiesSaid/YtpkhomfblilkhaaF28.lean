/- What a row's word for its arguments tells: keys, bytes, slices of rows. -/
import Derived.Test.YtpkhomfblilkhaaF21
import Derived.ProofKit
import Derived.OpenShut
namespace Go.Proofs.Ytpkhomfblilkhaa.E
set_option linter.all false
open Go Go.RowKit Go.ChangeShapes

section
variable {H : Type} {enc : TypeId × Value → H} {P : Program} {w : World} {base : Nat} {spare : Nat → Bool} {held : Bool} {fuel : Nat} {cs : List Value} {x : DataW H × List MemPlace}
theorem bytes_trod {t u n : Nat} (ht : P.underlying t = some (.array n u)) (hu : P.underlying u = some (.int .u8)) (hc : P.cellsOf u = 1) (hct : P.cellsOf t = n) (h : DataW.trod enc P w base spare held fuel t cs = some x) : ∃ l : List Int, cs = U l ∧ l.length = n ∧ AllB l := by
  obtain ⟨xs, m, _, _, hl, hxl, hel⟩ := DataW.trod_array ht h
  rw [hct] at hl
  have each : ∀ i (hi : i < n), ∃ z, cs[i]? = some (.int .u8 z) ∧ IsB z := by
    intro i hi
    have h1 := hel i hi
    rw [hc, Nat.mul_one, List.getElem?_eq_getElem (by omega)] at h1
    obtain ⟨z, hz, _, hw⟩ := DataW.trod_int hu h1
    refine ⟨z, ?_, ?_⟩
    · have := congrArg (·[0]?) hz
      simpa [List.getElem?_take, List.getElem?_drop] using this
    · have : IntKind.u8.min ≤ z ∧ z ≤ IntKind.u8.max := by simpa [Lit.wf] using hw
      exact ⟨this.1, by have := this.2; change z ≤ 255 at this; omega⟩
  refine ⟨cs.map (fun v => match v with | .int _ n => n | _ => 0), ?_, by simpa using hl, ?_⟩
  · apply List.ext_getElem?
    intro i
    rw [U_at, List.getElem?_map]
    by_cases hi : i < n
    · obtain ⟨z, hz, _⟩ := each i hi
      rw [hz]; rfl
    · rw [List.getElem?_eq_none (by omega)]; rfl
  · intro y hy
    obtain ⟨v, hv, rfl⟩ := List.mem_map.1 hy
    obtain ⟨i, hi, rfl⟩ := List.getElem_of_mem hv
    obtain ⟨z, hz, hb⟩ := each i (by omega)
    rw [List.getElem?_eq_getElem hi, Option.some.injEq] at hz
    rw [hz]; exact hb
/-- A slice whose elements are rows of cells. -/
theorem rows_trod {t e z : Nat} {α : Type} {f : α → List Value} (ht : P.underlying t = some (.slice e)) (hz : P.cellsOf e = z) (h0 : 0 < z) (hf : ∀ a, (f a).length = z)
    (hop : ∀ n cs x, DataW.trod enc P w 0 spare held n e cs = some x → ∃ a, cs = f a) {v : Value} (h : DataW.trod enc P w 0 spare held fuel t [v] = some x) :
    ∃ xs : List α, (v = .slice none 0 0 ∧ xs = []) ∨ ∃ a cap, v = .slice (some a) xs.length cap ∧ xs.length ≤ cap ∧ cap ≤ maxLen ∧ (0 < xs.length → ∃ g o, a = ⟨g, o, none⟩ ∧ g < w.heap.size ∧ w.rangeAt g o (rows f xs)) := by
  rcases DataW.trod_slice ht h with ⟨hv, _⟩ | ⟨a, len, cap, elems, rest, n, _, hv, _, _, hl, hm, hlen, hel, _⟩
  · exact ⟨[], .inl ⟨by simpa using hv, rfl⟩⟩
  · have each : ∀ i, i < len → ∃ y, ∀ j, j < z → w.cell? (a.add (i * z + j)) = (f y)[j]? := by
      intro i hi
      have h1 := hel i hi
      rw [hz, List.getElem?_eq_getElem (by omega), Option.bind_eq_some_iff] at h1
      obtain ⟨cs', hcs, htr⟩ := h1
      obtain ⟨y, rfl⟩ := hop _ _ _ htr
      obtain ⟨_, _, hc⟩ := World.cells?_some hcs
      exact ⟨y, fun j hj => by rw [← Addr.add_add]; exact hc j hj⟩
    have hne : ∀ i, ∃ y : Option α, ∀ hi : i < len, ∃ y', y = some y' ∧ ∀ j, j < z → w.cell? (a.add (i * z + j)) = (f y')[j]? := by
      intro i
      by_cases hi : i < len
      · obtain ⟨y, hy⟩ := each i hi; exact ⟨some y, fun _ => ⟨y, rfl, hy⟩⟩
      · exact ⟨none, fun h => absurd h hi⟩
    have : ∀ m, m ≤ len → ∃ xs : List α, xs.length = m ∧ ∀ j, j < m * z → w.cell? (a.add j) = (rows f xs)[j]? := by
      intro m
      induction m with
      | zero => intro _; exact ⟨[], rfl, fun j hj => by omega⟩
      | succ m ih =>
        intro hm'
        obtain ⟨xs, hal, has⟩ := ih (by omega)
        obtain ⟨y, hy⟩ := each m (by omega)
        refine ⟨xs ++ [y], by simp [hal], fun j hj => ?_⟩
        have hrl : (rows f xs).length = m * z := by rw [rows_length hf, hal]
        rw [rows_append]
        by_cases hjm : j < m * z
        · rw [List.getElem?_append_left (by omega), has j hjm]
        · rw [List.getElem?_append_right (by omega), hrl]
          have h2 := hy (j - m * z) (by rw [Nat.succ_mul] at hj; omega)
          rw [show m * z + (j - m * z) = j by omega] at h2
          rw [h2]; simp [rows]
    obtain ⟨xs, hal, has⟩ := this len (Nat.le_refl _)
    refine ⟨xs, .inr ⟨a, cap, by rw [hal]; simpa using hv, by omega, hm, fun hpos => ?_⟩⟩
    have hcl : (rows f xs).length = len * z := by rw [rows_length hf, hal]
    have hp : 0 < len * z := Nat.mul_pos (by omega) h0
    have h1 := has 0 hp
    rw [List.getElem?_eq_getElem (by omega)] at h1
    have hsp := World.cell?_spot h1
    have hlt := World.block_lt_of_cell? w _ h1
    obtain ⟨g, o, sp⟩ := a
    have e0 : (⟨g, o, sp⟩ : Addr).add 0 = ⟨g, o, sp⟩ := by simp [Addr.add]
    rw [e0] at hsp hlt
    simp only at hsp hlt
    subst hsp
    refine ⟨g, o, rfl, hlt, fun j v hv => ?_⟩
    have hj : j < (rows f xs).length := (List.getElem?_eq_some_iff.1 hv).1
    rw [← hv, ← has j (by omega), Addr.add_mid]
end
section
variable {H : Type} {enc : TypeId × Value → H} {w : World} {base : Nat} {spare : Nat → Bool} {held : Bool} {fuel : Nat} {cs : List Value} {x : DataW H × List MemPlace}
theorem key_trod (h : DataW.trod enc Try.prog w base spare held fuel 23 cs = some x) : ∃ k : Ky, cs = U k.b := by
  obtain ⟨l, rfl, hl, hb⟩ := bytes_trod Try.underlying23 Try.underlying5 (by kernel_rfl) (by kernel_rfl) h
  exact ⟨⟨l, hl, hb⟩, rfl⟩
theorem entry_trod (h : DataW.trod enc Try.prog w base spare held fuel 28 cs = some x) : ∃ e : Ent, cs = rE e := by
  obtain ⟨xs, n, _, _, hl, hxl, hel⟩ := DataW.trod_struct Try.underlying28 h
  have hl' : cs.length = 80 := hl.trans (by kernel_rfl)
  have h0 := hel 0 _ rfl
  have h1 := hel 1 _ rfl
  rw [List.getElem?_eq_getElem (by rw [hxl]; decide)] at h0 h1
  obtain ⟨a, ha, la, ba⟩ := bytes_trod Try.underlying23 Try.underlying5 (by kernel_rfl) (by kernel_rfl) h0
  obtain ⟨b, hb, lb, bb⟩ := bytes_trod Try.underlying26 Try.underlying5 (by kernel_rfl) (by kernel_rfl) h1
  refine ⟨⟨a ++ b, by simp [la, lb], allB_app ba bb⟩, ?_⟩
  show cs = U (a ++ b)
  rw [U_append, ← ha, ← hb]
  have e1 : Try.prog.cellsOf 23 = 40 := by kernel_rfl
  have e2 : Try.prog.cellsOf 26 = 40 := by kernel_rfl
  show cs = (cs.drop 0).take (Try.prog.cellsOf 23) ++ (cs.drop 40).take (Try.prog.cellsOf 26)
  rw [e1, e2, List.drop_zero]
  have : (cs.drop 40).take 40 = cs.drop 40 := List.take_of_length_le (by rw [List.length_drop]; omega)
  rw [this, List.take_append_drop]
theorem rd_of_rows {es : List Ent} {v : Value} (h : (v = .slice none 0 0 ∧ es = []) ∨ ∃ a cap, v = .slice (some a) es.length cap ∧ es.length ≤ cap ∧ cap ≤ maxLen ∧ (0 < es.length → ∃ g o, a = ⟨g, o, none⟩ ∧ g < w.heap.size ∧ w.rangeAt g o (rows rE es))) : Rd w v es := by
  rcases h with ⟨rfl, rfl⟩ | ⟨a, cap, rfl, hc, hm, hr⟩
  · exact .nil _ _
  · by_cases h0 : es.length = 0
    · obtain rfl := List.eq_nil_of_length_eq_zero h0
      exact .nil _ _
    · obtain ⟨g, o, rfl, hg, hr⟩ := hr (by omega)
      exact .row g o cap es (by omega) hg hr (by omega)
theorem entries_trod {v : Value} (h : DataW.trod enc Try.prog w 0 spare held fuel 40 [v] = some x) : ∃ es : List Ent, Rd w v es := by
  obtain ⟨es, h⟩ := rows_trod (f := rE) (z := 80) Try.underlying40 (by kernel_rfl) (by decide) rE_len (fun _ _ _ h => entry_trod h) h
  exact ⟨es, rd_of_rows h⟩
end
theorem cell_int {P : Program} {w : World} {r : Reach} {b : Nat} {u : TypeId} {k : IntKind} (hu : P.underlying u = some (.int k)) {v : Value} (h : Cell.okWide P w r b u v) : ∃ n, v = .int k n ∧ k.has n := by
  cases v <;> simp [Cell.okWide, Cell.ok, hu] at h
  obtain ⟨rfl, h⟩ := h
  exact ⟨_, rfl, h⟩
theorem open_flat {P : Program} {w : World} {r : Reach} {b : Nat} {t : TypeId} (ks : List IntKind) (hrow : (P.underlying t).map (·.isRow) = some true) (hts : (P.cellTypes P.depth t).map (·.map P.underlying) = some (ks.map fun k => some (.int k)))
    (hsz : P.cellsOf t = ks.length) {v : Value} (h : Value.okWide P w r b t v) : ∃ xs : List Int, v = .agg (List.zipWith Value.int ks xs).toArray ∧ xs.length = ks.length ∧ ∀ (i : Nat) k x, ks[i]? = some k → xs[i]? = some x → k.has x := by
  have h' : ∃ cs, v = .agg cs ∧ cs.size = P.cellsOf t ∧ Row.okWide P w r b t cs := by
    obtain ⟨d, hd, hr⟩ := Option.map_eq_some_iff.1 hrow
    unfold Value.okWide at h
    rw [hd] at h
    cases d <;> simp [TypeDesc.isRow] at hr <;> exact h
  obtain ⟨cs, rfl, hcs, ts, hT, _, hcell⟩ := h'
  rw [hT] at hts
  simp only [Option.map_some, Option.some.injEq] at hts
  have hlen : ts.length = ks.length := by have := congrArg List.length hts; simpa using this
  have hall : ∀ i, i < ks.length → ∃ k n, ks[i]? = some k ∧ cs[i]? = some (.int k n) ∧ k.has n := by
    intro i hi
    have hv : cs[i]? = some (cs[i]'(by omega)) := by rw [Array.getElem?_eq_getElem]
    obtain ⟨u, hu, hc⟩ := hcell i _ hv
    rw [Nat.mod_eq_of_lt (by omega)] at hu
    have := congrArg (·[i]?) hts
    simp only [List.getElem?_map, hu, Option.map_some] at this
    have hk : ks[i]? = some (ks[i]'hi) := List.getElem?_eq_getElem hi
    rw [hk, Option.map_some, Option.some.injEq] at this
    obtain ⟨n, hn, hh⟩ := cell_int this hc
    exact ⟨_, n, hk, by rw [hv, hn], hh⟩
  refine ⟨cs.toList.map fun v => match v with | .int _ n => n | _ => 0, ?_, by simp; omega, ?_⟩
  · congr 1
    apply Array.ext'
    simp only [List.toList_toArray]
    apply List.ext_getElem?
    intro i
    by_cases hi : i < ks.length
    · obtain ⟨k, n, hk, hc, _⟩ := hall i hi
      simp [List.getElem?_zipWith, hk, hc]
    · rw [List.getElem?_eq_none (by simp; omega), List.getElem?_eq_none (by simp; omega)]
  · intro i k x hk hx
    have hi : i < ks.length := (List.getElem?_eq_some_iff.1 hk).1
    obtain ⟨k', n, hk', hc, hh⟩ := hall i hi
    rw [hk] at hk'
    obtain rfl := Option.some.inj hk'
    rw [List.getElem?_map, Array.getElem?_toList, hc] at hx
    simp at hx
    exact hx ▸ hh
theorem u8_has {x : Int} (h : IntKind.u8.has x) : IsB x := by
  have h1 : (0 : Int) ≤ x := h.1
  have h2 : x ≤ 255 := h.2
  exact ⟨h1, by omega⟩
set_option maxRecDepth 100000 in
theorem open_bytes {w : World} {r : Reach} {b : Nat} {t n : Nat} (hrow : (Try.prog.underlying t).map (·.isRow) = some true) (hts : (Try.prog.cellTypes Try.prog.depth t).map (·.map Try.prog.underlying) = some ((List.replicate n IntKind.u8).map fun k => some (.int k)))
    (hsz : Try.prog.cellsOf t = (List.replicate n IntKind.u8).length) {v : Value} (h : Value.okWide Try.prog w r b t v) : ∃ l : List Int, v = .agg (U l).toArray ∧ l.length = n ∧ AllB l := by
  obtain ⟨xs, rfl, hl, hh⟩ := open_flat (List.replicate n IntKind.u8) hrow hts hsz h
  rw [List.length_replicate] at hl
  refine ⟨xs, by rw [U_zipn hl], hl, fun x hx => ?_⟩
  obtain ⟨i, hi, rfl⟩ := List.getElem_of_mem hx
  exact u8_has (hh i .u8 _ (by rw [List.getElem?_replicate, if_pos (by omega)]) (List.getElem?_eq_getElem hi))
set_option maxRecDepth 100000 in
theorem open_key {w : World} {r : Reach} {b : Nat} {v : Value} (h : Value.okWide Try.prog w r b 23 v) : ∃ k : Ky, v = .agg (U k.b).toArray := by
  obtain ⟨l, hv, hl, hb⟩ := open_bytes (n := 40) (by kernel_rfl) (by kernel_rfl) (by kernel_rfl) h
  exact ⟨⟨l, hl, hb⟩, hv⟩
end Go.Proofs.Ytpkhomfblilkhaa.E
