/- slices.Insert, Delete, Clone at []part. -/
import Derived.Test.YtpkhomfblilkhaaF0
import Derived.Test.YtpkhomfblilkhaaK5
namespace Go.Proofs.Ytpkhomfblilkhaa.E
set_option linter.all false
open Go Go.RowKit

set_option maxRecDepth 20000 in
set_option maxHeartbeats 800000 in
theorem insP_end {F : Nat → Prop} {w0 w : World} {L M : Mem} {n vb : Nat} {xs ys : List Value} {v : Value} (hK : Kn F w0 w (M ++ (vb, 37, ys) :: L)) (hS : Sl 37 1 n xs v M) (hn : n ≤ 900000) (hy : ys.length = 1) (h1y : ∀ u ∈ ys, u.oneCell' = true) :
    Calls Try.prog 98 #[v, .int .i64 n, .slice (some ⟨vb, 0, none⟩) 1 1] w (SlRet F w0 37 1 (n + 1) (xs ++ ys) ((vb, 37, ys) :: L)) := by
  have hB : Blk w vb 37 ys := hK.blk _ (List.mem_append_right _ (List.mem_cons_self ..))
  have hsrc : ∀ j u, ys[j]? = some u → w.cell? ((⟨vb, 0, none⟩ : Addr).add j) = some u := fun j u hj => by rw [Addr.add_mid, hB.cell, Nat.zero_add]; exact hj
  have hS0 := hS
  cases hS with
  | nil h0 hx =>
    subst h0
    go_enter Try.func98, Try.ntmps98
    go_wp2_with (((with_reducible change wpList _ _ _ (Oper.mk _ (Op.call _) _ _ _ _ :: _) _ _); refine KL_appS (M := _) hK hS0 (by rfl) _ _ _ _ rfl rfl rfl (Src.ofSlice _ Try.underlying104 _ _ _ _ (by rw [hy]) hsrc h1y) (by omega) (by decide) ?_; intro v' M' w hS' hK'))
    go_ret
    exact ⟨_, _, rfl, hS', hK'⟩
  | row g cap junk hx hc hnc hcap =>
    go_enter Try.func98, Try.ntmps98
    go_wp2_with (((with_reducible change wpList _ _ _ (Oper.mk _ (Op.call _) _ _ _ _ :: _) _ _); refine KL_appS (M := _) hK hS0 (by rfl) _ _ _ _ rfl rfl rfl (Src.ofSlice _ Try.underlying104 _ _ _ _ (by rw [hy]) hsrc h1y) (by omega) (by decide) ?_; intro v' M' w hS' hK'))
    all_goals
      go_ret
      exact ⟨_, _, rfl, hS', hK'⟩

/-! ### In the midst, there is room -/
set_option maxRecDepth 20000 in
set_option maxHeartbeats 1600000 in
theorem insP_room {F : Nat → Prop} {w0 w : World} {L : Mem} {n vb g cap i : Nat} {xs ys junk : List Value} (hK : Kn F w0 w ((g, 37, xs ++ junk) :: (vb, 37, ys) :: L)) (hx : xs.length = n) (hc : cap ≤ (xs ++ junk).length) (hcap : cap ≤ maxLen) (hr : n + 1 ≤ cap) (hi : i < n) (hn : n ≤ 900000) (hy : ys.length = 1)
    (h1 : ∀ u ∈ xs, u.oneCell' = true) (h1y : ∀ u ∈ ys, u.oneCell' = true) :
    Calls Try.prog 98 #[.slice (some ⟨g, 0, none⟩) n cap, .int .i64 i, .slice (some ⟨vb, 0, none⟩) 1 1] w (SlRet F w0 37 1 (n + 1) (xs.take (i) ++ (ys ++ xs.drop (i))) ((vb, 37, ys) :: L)) := by
  have hin : ¬ ((i : Int) = n) := by omega
  have hne : vb ≠ g := by
    have := hK.nd
    simp only [List.map_cons, List.nodup_cons, List.mem_cons, not_or] at this
    exact fun e => this.1.1 e.symm
  have hl : (xs ++ junk).length = n + junk.length := by rw [List.length_append, hx]
  have hov : ∀ oa la ca ob lb cb, (callFunc 112 #[.slice (some ⟨vb, oa, none⟩) la ca, .slice (some ⟨g, ob, none⟩) lb cb]).run Try.prog w = .ok (.value (.bool false)) w := fun oa la ca ob lb cb => by
    rw [run_callFunc_extern Try.func112 (by kernel_rfl) (by kernel_rfl) (by kernel_rfl) (e := Extern.SlicesOverlaps.overlaps #[104, 104] #[4]) (by kernel_rfl),
      run_apart (t := 104) (e := 37) (size := 1) (by kernel_rfl) (hK.has : Blk w vb 37 ys) (hK.has : Blk w g 37 (xs ++ junk)) hne (by omega)]
    rfl
  go_enter Try.func98, Try.ntmps98
  go_wp2_with (simp only [hov])
  clear hov
  have hle : i + 1 ≤ n := by omega
  have hw1 : IntKind.i64.wrap ((i : Int) + 1) = (i : Int) + 1 := by rw [IntKind.wrap_i64]; omega
  have hb1 : (0 : Int) ≤ (i : Int) + 1 := by omega
  have htn : ((i : Int) + 1).toNat = i + 1 := by omega
  have hbd : (i : Int) + 1 ≤ (n : Int) + 1 := by omega
  have hb2 : ¬ (cap = i + 1) := by omega
  have hb3 : (i : Int) ≤ (n : Int) + 1 := by omega
  have hb4 : ¬ (cap = i) := by omega
  (refine wp_region_kn hK [false] (by kernel_rfl) ?_; (try clear hK); intro w hK hS)
  (refine KS_take 0 (by kernel_rfl) (by decide +kernel) (by decide +kernel) (by exact fun _ _ _ h => h) (by rfl) (by intro w hSw; go_simp; with_reducible rfl) hS ?_; (try simp only [Act.put, List.setIfInBounds_toArray, List.set_cons_zero, List.set_cons_succ])); (refine KS_take 1 (by kernel_rfl) (by decide +kernel) (by decide +kernel) (by exact fun _ _ _ h => h) (by rfl) (by intro w hSw; go_simp; with_reducible rfl) hS ?_; (try simp only [Act.put, List.setIfInBounds_toArray, List.set_cons_zero, List.set_cons_succ])); (refine KS_take 2 (by kernel_rfl) (by decide +kernel) (by decide +kernel) (by exact fun _ _ _ h => h) (by rfl) (by intro w hSw; go_simp; with_reducible rfl) hS ?_; (try simp only [Act.put, List.setIfInBounds_toArray, List.set_cons_zero, List.set_cons_succ])); (refine KS_take 3 (by kernel_rfl) (by decide +kernel) (by decide +kernel) (by exact fun _ _ _ h => h) (by rfl) (by intro w hSw; go_simp; with_reducible rfl) hS ?_; (try simp only [Act.put, List.setIfInBounds_toArray, List.set_cons_zero, List.set_cons_succ])); (refine KS_take 4 (by kernel_rfl) (by decide +kernel) (by decide +kernel) (by exact fun _ _ _ h => h) (by rfl) (by intro w hSw; go_simp; with_reducible rfl) hS ?_; (try simp only [Act.put, List.setIfInBounds_toArray, List.set_cons_zero, List.set_cons_succ])); (refine KS_take 5 (by kernel_rfl) (by decide +kernel) (by decide +kernel) (by exact fun _ _ _ h => h) (by rfl) (by intro w hSw; go_simp; with_reducible rfl) hS ?_; (try simp only [Act.put, List.setIfInBounds_toArray, List.set_cons_zero, List.set_cons_succ])); (refine KS_take 6 (by kernel_rfl) (by decide +kernel) (by decide +kernel) (by exact fun _ _ _ h => h) (by rfl) (by intro w hSw; go_simp; with_reducible rfl) hS ?_; (try simp only [Act.put, List.setIfInBounds_toArray, List.set_cons_zero, List.set_cons_succ])); (refine KS_take 7 (by kernel_rfl) (by decide +kernel) (by decide +kernel) (by exact fun _ _ _ h => h) (by rfl) (by intro w hSw; go_simp; with_reducible rfl) hS ?_; (try simp only [Act.put, List.setIfInBounds_toArray, List.set_cons_zero, List.set_cons_succ]))
  have hc1 := part_tail1 (junk := junk) hx (Nat.le_of_lt hi)
  (refine KS_one 8 (by decide +kernel) (by rfl) (fun K hk => ?_); ((refine KO_cp hK _ _ _ _ rfl _ _ _ _ _ _ _ _ rfl rfl (n - i) (by simp only [Nat.min_def]; split <;> omega) _ _ hc1 (by omega) (by omega) (by exact fun u hu => h1 u (List.mem_of_mem_drop hu)) rfl ?_; (try clear hK); intro w hK)); (refine hk.out _ _ hK.subs (fun hS => ?_); clear hk K; (try simp only [Act.put, List.setIfInBounds_toArray, List.set_cons_zero, List.set_cons_succ])))
  (refine wpAnyH_done (by kernel_rfl) ?_ _)
  go_wp2_with ((with_reducible change wpList _ _ _ (Oper.mk _ (Op.call _) _ _ _ _ :: _) _ _); refine KL_cp hK (by rfl) _ _ _ _ rfl _ _ _ _ _ _ _ _ rfl rfl 1 (by simp only [Nat.min_def]; split <;> omega) ys _ (by rw [List.drop_zero, List.take_of_length_le (by omega)]) (by omega) (by rw [length_splice _ _ _ (by rw [List.length_drop]; omega)]; omega) h1y rfl ?_; clear hK; intro w hK)
  go_ret
  rw [ins_cells1 hx hi hy (by omega)] at hK
  refine ⟨_, _, rfl, .row g cap _ ?_ ?_ hr hcap, hK⟩
  · rw [List.length_append, List.length_append, List.length_take, List.length_drop, hy]; omega
  · rw [List.length_append, List.length_append, List.length_append, List.length_take, List.length_drop, List.length_drop, hy]; omega

/-! ### In the midst, there is no room -/
set_option maxRecDepth 20000 in
set_option maxHeartbeats 1600000 in
theorem insP_grow {F : Nat → Prop} {w0 w : World} {L : Mem} {n vb g cap i : Nat} {xs ys junk : List Value} (hK : Kn F w0 w ((g, 37, xs ++ junk) :: (vb, 37, ys) :: L)) (hx : xs.length = n) (hc : cap ≤ (xs ++ junk).length) (hcap : cap ≤ maxLen) (hnc : n ≤ cap) (hr : cap < n + 1) (hi : i < n) (hn : n ≤ 900000) (hy : ys.length = 1)
    (h1 : ∀ u ∈ xs, u.oneCell' = true) (h1y : ∀ u ∈ ys, u.oneCell' = true) :
    Calls Try.prog 98 #[.slice (some ⟨g, 0, none⟩) n cap, .int .i64 i, .slice (some ⟨vb, 0, none⟩) 1 1] w (SlRet F w0 37 1 (n + 1) (xs.take (i) ++ (ys ++ xs.drop (i))) ((vb, 37, ys) :: L)) := by
  have hin : ¬ ((i : Int) = n) := by omega
  have hl : (xs ++ junk).length = n + junk.length := by rw [List.length_append, hx]
  have hle : i + 1 ≤ n := by omega
  have hw1 : IntKind.i64.wrap ((i : Int) + 1) = (i : Int) + 1 := by rw [IntKind.wrap_i64]; omega
  have hkk : (n : Int) + 1 - i = ((n + 1 - i : Nat) : Int) := by omega
  have hx0 : (xs ++ junk).take (i * (1)) = xs.take (i) := by
    try simp only [Nat.mul_one]
    exact List.take_append_of_le_length (by omega)
  have hsum : i + (n + 1 - i) = n + 1 := by omega
  have hb1 : (0 : Int) ≤ (i : Int) + 1 := by omega
  have htn : ((i : Int) + 1).toNat = i + 1 := by omega
  have hbd : (i : Int) + 1 ≤ (n : Int) + 1 := by omega
  have hb3 : (i : Int) ≤ (n : Int) + 1 := by omega
  have hb5 : ¬ (cap = i) := by omega
  have hc1 := part_tail1 (junk := junk) hx (Nat.le_of_lt hi)
  go_enter Try.func98, Try.ntmps98
  go_wp2_with (first | ((with_reducible change wpList _ _ _ (Oper.mk _ (Op.call (Call.mk (Callee.builtin Builtin.append) _ _)) _ _ _ _ :: _) _ _); refine KL_appM hK (by rfl) _ _ _ _ rfl (n := i) (k := n + 1 - i) rfl rfl Try.underlying3 (T := 37) (xs := xs.take (i)) hx0 (by omega) (by omega) (by omega) (by omega) (by decide) ?_; clear hK; intro c b w junk' hcb hcm hjl hK; rw [hsum]; have hb2 : ¬ (c = i + 1) := (by omega); have hb4 : ¬ (c = i) := (by omega)) | ((with_reducible change wpList _ _ _ (Oper.mk _ (Op.call _) _ _ _ _ :: _) _ _); refine KL_cp hK (by rfl) _ _ _ _ rfl _ _ _ _ _ _ _ _ rfl rfl 1 (by simp only [Nat.min_def]; split <;> omega) ys _ (by rw [List.drop_zero, List.take_of_length_le (by omega)]) (by omega) (by rw [List.length_append, List.length_take]; omega) h1y rfl ?_; clear hK; intro w hK))
  have hin' : i ≤ n := Nat.le_of_lt hi
  (try simp only [Act.put, List.setIfInBounds_toArray, List.set_cons_zero, List.set_cons_succ])
  (refine wp_region_kn hK [false] (by kernel_rfl) ?_; (try clear hK); intro w hK hS)
  (refine KS_take 0 (by kernel_rfl) (by decide +kernel) (by decide +kernel) (by exact fun _ _ _ h => h) (by rfl) (by intro w hSw; go_simp; with_reducible rfl) hS ?_; (try simp only [Act.put, List.setIfInBounds_toArray, List.set_cons_zero, List.set_cons_succ])); (refine KS_take 1 (by kernel_rfl) (by decide +kernel) (by decide +kernel) (by exact fun _ _ _ h => h) (by rfl) (by intro w hSw; go_simp; with_reducible rfl) hS ?_; (try simp only [Act.put, List.setIfInBounds_toArray, List.set_cons_zero, List.set_cons_succ])); (refine KS_take 2 (by kernel_rfl) (by decide +kernel) (by decide +kernel) (by exact fun _ _ _ h => h) (by rfl) (by intro w hSw; go_simp; with_reducible rfl) hS ?_; (try simp only [Act.put, List.setIfInBounds_toArray, List.set_cons_zero, List.set_cons_succ])); (refine KS_take 3 (by kernel_rfl) (by decide +kernel) (by decide +kernel) (by exact fun _ _ _ h => h) (by rfl) (by intro w hSw; go_simp; with_reducible rfl) hS ?_; (try simp only [Act.put, List.setIfInBounds_toArray, List.set_cons_zero, List.set_cons_succ])); (refine KS_take 4 (by kernel_rfl) (by decide +kernel) (by decide +kernel) (by exact fun _ _ _ h => h) (by rfl) (by intro w hSw; go_simp; with_reducible rfl) hS ?_; (try simp only [Act.put, List.setIfInBounds_toArray, List.set_cons_zero, List.set_cons_succ])); (refine KS_take 5 (by kernel_rfl) (by decide +kernel) (by decide +kernel) (by exact fun _ _ _ h => h) (by rfl) (by intro w hSw; go_simp; with_reducible rfl) hS ?_; (try simp only [Act.put, List.setIfInBounds_toArray, List.set_cons_zero, List.set_cons_succ])); (refine KS_take 6 (by kernel_rfl) (by decide +kernel) (by decide +kernel) (by exact fun _ _ _ h => h) (by rfl) (by intro w hSw; go_simp; with_reducible rfl) hS ?_; (try simp only [Act.put, List.setIfInBounds_toArray, List.set_cons_zero, List.set_cons_succ])); (refine KS_take 7 (by kernel_rfl) (by decide +kernel) (by decide +kernel) (by exact fun _ _ _ h => h) (by rfl) (by intro w hSw; go_simp; with_reducible rfl) hS ?_; (try simp only [Act.put, List.setIfInBounds_toArray, List.set_cons_zero, List.set_cons_succ]))
  (refine KS_one 8 (by decide +kernel) (by rfl) (fun K hk => ?_); ((refine KO_cp hK _ _ _ _ rfl _ _ _ _ _ _ _ _ rfl rfl (n - i) (by simp only [Nat.min_def]; split <;> omega) _ _ hc1 (by omega) (by rw [length_splice _ _ _ (by rw [List.length_append, List.length_take]; omega), List.length_append, List.length_take]; omega) (by exact fun u hu => h1 u (List.mem_of_mem_drop hu)) rfl ?_; (try clear hK); intro w hK)); (refine hk.out _ _ hK.subs (fun hS => ?_); clear hk K; (try simp only [Act.put, List.setIfInBounds_toArray, List.set_cons_zero, List.set_cons_succ])))
  (refine wpAnyH_done (by kernel_rfl) ?_ _)
  go_wp2_with fail
  go_ret
  rw [ins_cells1' hx hi hy (by omega)] at hK
  refine ⟨_, _, rfl, .row b c _ ?_ ?_ (by omega) hcm, hK.sub (.cons_cons _ (.cons _ (.refl _)))⟩
  · rw [List.length_append, List.length_append, List.length_take, List.length_drop, hy]; omega
  · rw [List.length_append, List.length_append, List.length_append, List.length_take, List.length_drop, List.length_drop, hy]; omega
/-- slices.Insert of one element. -/
theorem insP_c {F : Nat → Prop} {w0 w : World} {L M : Mem} {n vb i : Nat} {xs ys : List Value} {v : Value} (hK : Kn F w0 w (M ++ (vb, 37, ys) :: L)) (hS : Sl 37 1 n xs v M) (hi : i ≤ n) (hn : n ≤ 900000) (hy : ys.length = 1) (h1 : ∀ u ∈ xs, u.oneCell' = true) (h1y : ∀ u ∈ ys, u.oneCell' = true) :
    Calls Try.prog 98 #[v, .int .i64 i, .slice (some ⟨vb, 0, none⟩) 1 1] w (SlRet F w0 37 1 (n + 1) (xs.take (i) ++ (ys ++ xs.drop (i))) ((vb, 37, ys) :: L)) := by
  by_cases he : i = n
  · subst he
    have := insP_end hK hS hn hy h1y
    have hl := hS.len
    have e1 : xs.take (i) ++ (ys ++ xs.drop (i)) = xs ++ ys := by rw [List.take_of_length_le (by omega), List.drop_of_length_le (by omega), List.append_nil]
    rw [e1]
    exact this
  · cases hS with
    | nil h0 hx => omega
    | row g cap junk hx hc hnc hcap =>
      by_cases hr : n + 1 ≤ cap
      · exact insP_room hK (by omega) (by omega) hcap hr (by omega) hn hy h1 h1y
      · exact insP_grow hK (by omega) (by omega) hcap hnc (by omega) (by omega) hn hy h1 h1y
end Go.Proofs.Ytpkhomfblilkhaa.E
