/- Arguments that are rows of integers, read out of the row's own word for them. -/
import Derived.Test.YtcpkbhoocblpjaaE10
import Derived.ProofKit
namespace Go.Proofs.Ytcpkbhoocblpjaa.E
set_option linter.all false
open Go Go.RowKit

theorem cell_int {P : Program} {w : World} {r : Reach} {b : Nat} {u : TypeId} {k : IntKind} (hu : P.underlying u = some (.int k)) {v : Value} (h : Cell.okWide P w r b u v) : ∃ n, v = .int k n ∧ k.has n := by
  cases v <;> simp [Cell.okWide, Cell.ok, hu] at h
  obtain ⟨rfl, h⟩ := h
  exact ⟨_, rfl, h⟩
theorem open_flat {P : Program} {w : World} {r : Reach} {b : Nat} {t : TypeId} (ks : List IntKind) (hrow : (P.underlying t).map (·.isRow) = some true) (hts : (P.cellTypes P.depth t).map (·.map P.underlying) = some (ks.map fun k => some (.int k)))
    (hsz : P.cellsOf t = ks.length) {v : Value} (h : Value.okWide P w r b t v) : ∃ xs : List Int, v = .agg (List.zipWith Value.int ks xs).toArray ∧ xs.length = ks.length ∧ ∀ (i : Nat) k x, ks[i]? = some k → xs[i]? = some x → k.has x := by
  have h' : ∃ cs, v = .agg cs ∧ cs.size = P.cellsOf t ∧ Row.okWide P w r b t cs := by
    obtain ⟨d, hd, hr⟩ := Option.map_eq_some_iff.1 hrow
    unfold Value.okWide at h
    rw [hd] at h
    cases d <;> simp [TypeDesc.isRow] at hr <;> exact h
  obtain ⟨cs, rfl, hcs, ts, hT, _, hcell⟩ := h'
  rw [hT] at hts
  simp only [Option.map_some, Option.some.injEq] at hts
  have hlen : ts.length = ks.length := by have := congrArg List.length hts; simpa using this
  have hall : ∀ i, i < ks.length → ∃ k n, ks[i]? = some k ∧ cs[i]? = some (.int k n) ∧ k.has n := by
    intro i hi
    have hv : cs[i]? = some (cs[i]'(by omega)) := by rw [Array.getElem?_eq_getElem]
    obtain ⟨u, hu, hc⟩ := hcell i _ hv
    rw [Nat.mod_eq_of_lt (by omega)] at hu
    have := congrArg (·[i]?) hts
    simp only [List.getElem?_map, hu, Option.map_some] at this
    have hk : ks[i]? = some (ks[i]'hi) := List.getElem?_eq_getElem hi
    rw [hk, Option.map_some, Option.some.injEq] at this
    obtain ⟨n, hn, hh⟩ := cell_int this hc
    exact ⟨_, n, hk, by rw [hv, hn], hh⟩
  refine ⟨cs.toList.map fun v => match v with | .int _ n => n | _ => 0, ?_, by simp; omega, ?_⟩
  · congr 1
    apply Array.ext'
    simp only [List.toList_toArray]
    apply List.ext_getElem?
    intro i
    by_cases hi : i < ks.length
    · obtain ⟨k, n, hk, hc, _⟩ := hall i hi
      simp [List.getElem?_zipWith, hk, hc]
    · rw [List.getElem?_eq_none (by simp; omega), List.getElem?_eq_none (by simp; omega)]
  · intro i k x hk hx
    have hi : i < ks.length := (List.getElem?_eq_some_iff.1 hk).1
    obtain ⟨k', n, hk', hc, hh⟩ := hall i hi
    rw [hk] at hk'
    obtain rfl := Option.some.inj hk'
    rw [List.getElem?_map, Array.getElem?_toList, hc] at hx
    simp at hx
    exact hx ▸ hh
theorem u8_has {x : Int} (h : IntKind.u8.has x) : IsB x := by
  have h1 : (0 : Int) ≤ x := h.1
  have h2 : x ≤ 255 := h.2
  exact ⟨h1, by omega⟩
theorem open_bytes {w : World} {r : Reach} {b : Nat} {t n : Nat} (hrow : (Try.prog.underlying t).map (·.isRow) = some true) (hts : (Try.prog.cellTypes Try.prog.depth t).map (·.map Try.prog.underlying) = some ((List.replicate n IntKind.u8).map fun k => some (.int k)))
    (hsz : Try.prog.cellsOf t = (List.replicate n IntKind.u8).length) {v : Value} (h : Value.okWide Try.prog w r b t v) : ∃ l : List Int, v = .agg (U l).toArray ∧ l.length = n ∧ AllB l := by
  obtain ⟨xs, rfl, hl, hh⟩ := open_flat (List.replicate n IntKind.u8) hrow hts hsz h
  rw [List.length_replicate] at hl
  refine ⟨xs, by rw [U_zipn hl], hl, fun x hx => ?_⟩
  obtain ⟨i, hi, rfl⟩ := List.getElem_of_mem hx
  exact u8_has (hh i .u8 _ (by rw [List.getElem?_replicate, if_pos (by omega)]) (List.getElem?_eq_getElem hi))
theorem open_entry {w : World} {r : Reach} {b : Nat} {v : Value} (h : Value.okWide Try.prog w r b 44 v) : ∃ l : List Int, v = .agg (U l).toArray ∧ l.length = 80 ∧ AllB l :=
  open_bytes (by kernel_rfl) (by kernel_rfl) (by kernel_rfl) h
theorem open_key {w : World} {r : Reach} {b : Nat} {v : Value} (h : Value.okWide Try.prog w r b 41 v) : ∃ l : List Int, v = .agg (U l).toArray ∧ l.length = 40 ∧ AllB l :=
  open_bytes (by kernel_rfl) (by kernel_rfl) (by kernel_rfl) h
/-- The numbers of an item are of their kinds. -/
def It.ok (i : It) : Prop := IsB i.kind ∧ AllB i.key ∧ AllB i.sk ∧ ∀ x ∈ [i.at_, i.sec, i.un, i.refs, i.snap, i.unit, i.off, i.mask], -9223372036854775808 ≤ x ∧ x ≤ 9223372036854775807
theorem It.of_ints (xs : List Int) (h : xs.length = 73) : ∃ i : It, i.ints = xs := by
  refine ⟨⟨at0 xs 0, sub xs 1 32, at0 xs 33, at0 xs 34, at0 xs 35, at0 xs 36, at0 xs 37, at0 xs 38, sub xs 39 32, at0 xs 71, at0 xs 72, sub_length h (by omega), sub_length h (by omega)⟩, ?_⟩
  have hd : ∀ i, i < 73 → xs.drop i = at0 xs i :: xs.drop (i + 1) := fun i hi => by
    rw [List.drop_eq_getElem_cons (by omega)]; simp [at0, List.getElem?_eq_getElem (show i < xs.length by omega)]
  have hs : ∀ i n, xs.drop i = sub xs i n ++ xs.drop (i + n) := fun i n => by
    rw [sub, ← List.drop_drop, List.take_append_drop]
  show at0 xs 0 :: (sub xs 1 32 ++ ([at0 xs 33, at0 xs 34, at0 xs 35, at0 xs 36] ++ (at0 xs 37 :: at0 xs 38 :: (sub xs 39 32 ++ [at0 xs 71, at0 xs 72])))) = xs
  have e := List.drop_zero (l := xs)
  rw [hd 0 (by omega), hs 1 32, hd 33 (by omega), hd 34 (by omega), hd 35 (by omega), hd 36 (by omega), hd 37 (by omega), hd 38 (by omega), hs 39 32, hd 71 (by omega), hd 72 (by omega), List.drop_eq_nil_of_le (by omega)] at e
  simpa using e
theorem open_item {w : World} {r : Reach} {b : Nat} {v : Value} (h : Value.okWide Try.prog w r b 39 v) : ∃ i : It, v = .agg i.row.toArray ∧ i.ok := by
  obtain ⟨xs, rfl, hl, hh⟩ := open_flat It.kinds (by kernel_rfl) (by kernel_rfl) (by kernel_rfl) h
  obtain ⟨i, rfl⟩ := It.of_ints xs (by rw [hl]; decide)
  refine ⟨i, by rw [i.row_zip], ?_⟩
  have hz : ∀ (j : Nat), j < 73 → ∀ k x, It.kinds[j]? = some k → i.ints[j]? = some x → k.has x := fun j _ k x h1 h2 => hh j k x h1 h2
  have i64h : ∀ x, IntKind.i64.has x → -9223372036854775808 ≤ x ∧ x ≤ 9223372036854775807 := fun x h => ⟨h.1, h.2⟩
  have hk : ∀ j, j < 32 → i.ints[1 + j]? = i.key[j]? := fun j hj => by
    simp only [It.ints, Nat.add_comm 1 j, List.getElem?_cons_succ]; rw [List.getElem?_append_left (by rw [i.hk]; exact hj)]
  have hs : ∀ j, j < 32 → i.ints[39 + j]? = i.sk[j]? := fun j hj => by
    have e : i.ints = (i.kind :: (i.key ++ [i.at_, i.sec, i.un, i.refs, i.snap, i.unit])) ++ (i.sk ++ [i.off, i.mask]) := by simp [It.ints]
    rw [e, List.getElem?_append_right (by simp [i.hk]), List.getElem?_append_left (by simp [i.hk, i.hs]; omega)]
    congr 1; simp [i.hk]
  have hn : ∀ (j : Nat) (x : Int), 33 ≤ j → j < 39 → i.ints[j]? = some x → -9223372036854775808 ≤ x ∧ x ≤ 9223372036854775807 := fun j x h1 h2 hx => by
    refine i64h x (hz j (by omega) .i64 x ?_ hx)
    have : j = 33 ∨ j = 34 ∨ j = 35 ∨ j = 36 ∨ j = 37 ∨ j = 38 := by omega
    rcases this with rfl | rfl | rfl | rfl | rfl | rfl <;> decide
  have g : ∀ (j : Nat), j < 6 → i.ints[33 + j]? = [i.at_, i.sec, i.un, i.refs, i.snap, i.unit][j]? := fun j hj => by
    have e : i.ints = (i.kind :: i.key) ++ ([i.at_, i.sec, i.un, i.refs, i.snap, i.unit] ++ (i.sk ++ [i.off, i.mask])) := by simp [It.ints]
    rw [e, List.getElem?_append_right (by simp [i.hk]), List.getElem?_append_left (by simp [i.hk]; omega)]
    congr 1; simp [i.hk]
  have g2 : ∀ (j : Nat), j < 2 → i.ints[71 + j]? = [i.off, i.mask][j]? := fun j hj => by
    have e : i.ints = (i.kind :: (i.key ++ [i.at_, i.sec, i.un, i.refs, i.snap, i.unit] ++ i.sk)) ++ [i.off, i.mask] := by simp [It.ints]
    rw [e, List.getElem?_append_right (by simp [i.hk, i.hs])]
    congr 1; simp [i.hk, i.hs]
  refine ⟨u8_has (hz 0 (by omega) .u8 _ rfl rfl), ?_, ?_, ?_⟩
  · intro x hx
    obtain ⟨j, hj, rfl⟩ := List.getElem_of_mem hx
    rw [i.hk] at hj
    refine u8_has (hz (1 + j) (by omega) .u8 _ ?_ (by rw [hk j hj]; exact List.getElem?_eq_getElem _))
    simp only [It.kinds, List.append_assoc]
    rw [List.getElem?_append_left (by simp; omega), List.getElem?_replicate, if_pos (by omega)]
  · intro x hx
    obtain ⟨j, hj, rfl⟩ := List.getElem_of_mem hx
    rw [i.hs] at hj
    refine u8_has (hz (39 + j) (by omega) .u8 _ ?_ (by rw [hs j hj]; exact List.getElem?_eq_getElem _))
    simp only [It.kinds, List.append_assoc]
    rw [List.getElem?_append_right (by simp; omega), List.getElem?_append_right (by simp; omega), List.getElem?_append_left (by simp; omega), List.getElem?_replicate, if_pos (by simp; omega)]
  · intro x hx
    simp only [List.mem_cons, List.not_mem_nil, or_false] at hx
    rcases hx with rfl | rfl | rfl | rfl | rfl | rfl | rfl | rfl
    · exact hn 33 _ (by omega) (by omega) (g 0 (by omega))
    · exact hn 34 _ (by omega) (by omega) (g 1 (by omega))
    · exact hn 35 _ (by omega) (by omega) (g 2 (by omega))
    · exact hn 36 _ (by omega) (by omega) (g 3 (by omega))
    · exact hn 37 _ (by omega) (by omega) (g 4 (by omega))
    · exact hn 38 _ (by omega) (by omega) (g 5 (by omega))
    · exact i64h _ (hz 71 (by omega) .i64 _ (by decide) (g2 0 (by omega)))
    · exact i64h _ (hz 72 (by omega) .i64 _ (by decide) (g2 1 (by omega)))
end Go.Proofs.Ytcpkbhoocblpjaa.E
