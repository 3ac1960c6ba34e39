/- slices.Delete, Clone at []Entry. -/
import Derived.Test.YtpkhomfblilkhaaF0
import Derived.Test.YtpkhomfblilkhaaK5
namespace Go.Proofs.Ytpkhomfblilkhaa.E
set_option linter.all false
open Go Go.RowKit

set_option maxRecDepth 20000 in
set_option maxHeartbeats 1600000 in
theorem cloE_c {F : Nat → Prop} {w0 w : World} {L : Mem} {n off b T c : Nat} {l xs : List Value} (hK : Kn F w0 w L) [hb : Has L b T l] (hx : (l.drop off).take (n * 80) = xs) (hf : off + n * 80 ≤ l.length) (h1 : ∀ u ∈ xs, u.oneCell' = true) (hn : n ≤ 900000) :
    Calls Try.prog 66 #[.slice (some ⟨b, off, none⟩) n c] w (SlRet F w0 28 80 n xs L) := by
  have hB : Blk w b T l := hK.has
  have hlt : b < w.heap.size := hB.lt
  have hxl : xs.length = n * (80) := by rw [← hx, List.length_take, List.length_drop]; omega
  have hnil : ∀ a n c (w : World), (binOp .eql 40 (.slice a n c) (.slice none 0 0)).run Try.prog w = .ok (.bool a.isNone) w := fun a n c w => Lib.run_eql_slice_nil w _ _ a n c 0 0 Try.underlying40
  go_enter Try.func66, Try.ntmps66
  go_wp2_with (first | (simp only [hnil, Option.isNone_some]) | ((with_reducible change wpList _ _ _ (Oper.mk _ (Op.buildSlice _ _ _) _ _ _ _ :: _) _ _); refine KL_bsv hK (by rfl) _ _ _ rfl [] rfl ?_; intro b1 w hK1; replace hB : Blk w b T l := (Kn.tl hK1 rfl).has) | ((with_reducible change wpList _ _ _ (Oper.mk _ (Op.call _) _ _ _ _ :: _) _ _); refine KL_appS (M := [_]) hK1 (.row b1 0 [] rfl (by simp) (by omega) (by omega) : Sl 28 80 0 [] _ [(b1, 28, [])]) (by rfl) _ _ _ _ rfl rfl rfl (Src.ofSlice _ Try.underlying40 _ _ _ xs hxl (fun j u hj => by rw [Addr.add_mid, hB.cell, ← hj, ← hx, List.getElem?_take, List.getElem?_drop, if_pos]; have := (List.getElem?_eq_some_iff.1 hj).1; omega) h1) (by omega) (by decide) ?_; intro v' M' w hS' hK'))
  go_ret
  refine ⟨_, _, rfl, hS'.cg (by omega) (by simp), hK'⟩

set_option maxRecDepth 20000 in
set_option maxHeartbeats 1600000 in
theorem cloE_nil {F : Nat → Prop} {w0 w : World} {L : Mem} (hK : Kn F w0 w L) :
    Calls Try.prog 66 #[.slice none 0 0] w (SlRet F w0 28 80 0 [] L) := by
  have hnil : ∀ a n c (w : World), (binOp .eql 40 (.slice a n c) (.slice none 0 0)).run Try.prog w = .ok (.bool a.isNone) w := fun a n c w => Lib.run_eql_slice_nil w _ _ a n c 0 0 Try.underlying40
  go_enter Try.func66, Try.ntmps66
  go_wp2_with (simp only [hnil, Option.isNone_none])
  go_ret
  exact ⟨_, [], rfl, .nil rfl rfl, hK⟩

set_option maxRecDepth 20000 in
set_option maxHeartbeats 1600000 in
theorem delE_c {F : Nat → Prop} {w0 w : World} {L : Mem} {n g cap i : Nat} {xs junk : List Value} (hK : Kn F w0 w ((g, 28, xs ++ junk) :: L)) (hx : xs.length = n * 80) (hc : cap * 80 ≤ (xs ++ junk).length) (hcap : cap ≤ maxLen) (hnc : n ≤ cap) (hi : i < n) (hn : n ≤ 900000)
    (h1 : ∀ u ∈ xs, u.oneCell' = true) :
    Calls Try.prog 69 #[.slice (some ⟨g, 0, none⟩) n cap, .int .i64 i, .int .i64 (i + 1)] w (SlRet F w0 28 80 (n - 1) (xs.take (i * 80) ++ xs.drop ((i + 1) * 80)) L) := by
  obtain ⟨m, rfl⟩ : ∃ m, n = m + 1 := ⟨n - 1, by omega⟩
  have hl : (xs ++ junk).length = (m + 1) * 80 + junk.length := by rw [List.length_append, hx]
  have hi1 : (i : Int) + 1 ≤ (m : Int) + 1 := by omega
  have hb1 : (0 : Int) ≤ (i : Int) + 1 := by omega
  have htn : ((i : Int) + 1).toNat = i + 1 := by omega
  have hdl : (xs.drop ((i + 1) * 80)).length = (m - i) * (80) := by rw [List.length_drop]; omega
  have hsum : i + (m - i) = m := by omega
  have hin : i ≤ cap := by omega
  have hm1 : (m : Int) ≤ (m : Int) + 1 := by omega
  have hm2 : ¬ (cap = m) := by omega
  have hfit : 0 + i * (80) + (xs.drop ((i + 1) * 80)).length ≤ (xs ++ junk).length := by rw [hdl]; omega
  have hspl : splice (xs ++ junk) (0 + i * (80)) (xs.drop ((i + 1) * 80)) = splice (xs ++ junk) (i * 80) (xs.drop ((i + 1) * 80)) := by simp only [Nat.zero_add, Nat.mul_one]
  have hwr : ∀ W : World, Blk W g 28 (xs ++ junk) → ∀ j u, (xs.drop ((i + 1) * 80))[j]? = some u → W.cell? ((⟨g, (i + 1) * 80, none⟩ : Addr).add j) = some u := fun W hB j u hj => by
    rw [Addr.add_mid, hB.cell, ← hj, List.getElem?_drop, List.getElem?_append_left]
    have := (List.getElem?_eq_some_iff.1 hj).1
    rw [List.length_drop] at this
    omega
  have hwr0 : cap = i + 1 → ∀ W : World, Blk W g 28 (xs ++ junk) → ∀ j u, (xs.drop ((i + 1) * 80))[j]? = some u → W.cell? ((⟨g, 0, none⟩ : Addr).add j) = some u := fun hcc W hB j u hj => by
    have := (List.getElem?_eq_some_iff.1 hj).1
    rw [List.length_drop] at this
    omega
  have h1d : ∀ u ∈ xs.drop ((i + 1) * 80), u.oneCell' = true := fun u hu => h1 u (List.mem_of_mem_drop hu)
  have hz1 : ∀ u ∈ U (Z 80), u.oneCell' = true := by decide
  by_cases hcc : cap = i + 1
  · obtain rfl : i = m := by omega
    subst hcc
    rw [Nat.sub_self] at hdl hsum
    (go_enter Try.func69, Try.ntmps69; go_wp2_with fail; (refine wp_region_kn hK [false] (by kernel_rfl) ?_; (try clear hK); intro w hK hS); (refine KS_take 0 (by kernel_rfl) (by decide +kernel) (by decide +kernel) (by exact fun _ _ _ h => h) (by rfl) (by intro w hSw; go_simp; with_reducible rfl) hS ?_; (try simp only [Act.put, List.setIfInBounds_toArray, List.set_cons_zero, List.set_cons_succ])); (refine KS_take 1 (by kernel_rfl) (by decide +kernel) (by decide +kernel) (by exact fun _ _ _ h => h) (by rfl) (by intro w hSw; go_simp; with_reducible rfl) hS ?_; (try simp only [Act.put, List.setIfInBounds_toArray, List.set_cons_zero, List.set_cons_succ])); (refine KS_take 2 (by kernel_rfl) (by decide +kernel) (by decide +kernel) (by exact fun _ _ _ h => h) (by rfl) (by intro w hSw; go_simp; with_reducible rfl) hS ?_; (try simp only [Act.put, List.setIfInBounds_toArray, List.set_cons_zero, List.set_cons_succ])); (refine KS_take 3 (by kernel_rfl) (by decide +kernel) (by decide +kernel) (by exact fun _ _ _ h => h) (by rfl) (by intro w hSw; go_simp; with_reducible rfl) hS ?_; (try simp only [Act.put, List.setIfInBounds_toArray, List.set_cons_zero, List.set_cons_succ])); (refine KS_take 4 (by kernel_rfl) (by decide +kernel) (by decide +kernel) (by exact fun _ _ _ h => h) (by rfl) (by intro w hSw; go_simp; with_reducible rfl) hS ?_; (try simp only [Act.put, List.setIfInBounds_toArray, List.set_cons_zero, List.set_cons_succ])); (refine KS_take 5 (by kernel_rfl) (by decide +kernel) (by decide +kernel) (by exact fun _ _ _ h => h) (by rfl) (by intro w hSw; go_simp; with_reducible rfl) hS ?_; (try simp only [Act.put, List.setIfInBounds_toArray, List.set_cons_zero, List.set_cons_succ])); (refine KS_one 6 (by decide +kernel) (by rfl) (fun K hk => ?_); ((refine KO_appR hK _ _ _ _ rfl rfl rfl (Src.ofSlice _ Try.underlying40 _ _ _ _ hdl (hwr0 trivial _ hK.has) h1d) (by omega) hfit hspl ?_; (try clear hK); intro w hK; rw [hsum])); (refine hk.out _ _ hK.subs (fun hS => ?_); clear hk K; (try simp only [Act.put, List.setIfInBounds_toArray, List.set_cons_zero, List.set_cons_succ]))); (refine KS_take 7 (by kernel_rfl) (by decide +kernel) (by decide +kernel) (by exact fun _ _ _ h => h) (by rfl) (by intro w hSw; go_simp; with_reducible rfl) hS ?_; (try simp only [Act.put, List.setIfInBounds_toArray, List.set_cons_zero, List.set_cons_succ])); (refine wpAnyH_done (by kernel_rfl) ?_ _); go_wp2_with ((with_reducible change wpList _ _ _ (Oper.mk _ (Op.call _) _ _ _ _ :: _) _ _); refine KL_clear hK (by rfl) _ _ rfl hz1 _ 0 _ rfl (by rw [length_splice _ _ _ (by omega)]; omega) ?_; clear hK; intro zs w hzs hK); go_ret; have hdc := del_cells (junk := junk) (zs := zs) hx hi (by omega); rw [Nat.add_sub_cancel] at hdc; rw [hdc] at hK; refine ⟨_, _, rfl, .row g _ _ ?_ ?_ (by omega) hcap, hK⟩; (rw [List.length_append, List.length_take, List.length_drop]; omega); (rw [List.length_append, List.length_append, List.length_append, List.length_take, List.length_drop]; omega))
  · (go_enter Try.func69, Try.ntmps69; go_wp2_with fail; (refine wp_region_kn hK [false] (by kernel_rfl) ?_; (try clear hK); intro w hK hS); (refine KS_take 0 (by kernel_rfl) (by decide +kernel) (by decide +kernel) (by exact fun _ _ _ h => h) (by rfl) (by intro w hSw; go_simp; with_reducible rfl) hS ?_; (try simp only [Act.put, List.setIfInBounds_toArray, List.set_cons_zero, List.set_cons_succ])); (refine KS_take 1 (by kernel_rfl) (by decide +kernel) (by decide +kernel) (by exact fun _ _ _ h => h) (by rfl) (by intro w hSw; go_simp; with_reducible rfl) hS ?_; (try simp only [Act.put, List.setIfInBounds_toArray, List.set_cons_zero, List.set_cons_succ])); (refine KS_take 2 (by kernel_rfl) (by decide +kernel) (by decide +kernel) (by exact fun _ _ _ h => h) (by rfl) (by intro w hSw; go_simp; with_reducible rfl) hS ?_; (try simp only [Act.put, List.setIfInBounds_toArray, List.set_cons_zero, List.set_cons_succ])); (refine KS_take 3 (by kernel_rfl) (by decide +kernel) (by decide +kernel) (by exact fun _ _ _ h => h) (by rfl) (by intro w hSw; go_simp; with_reducible rfl) hS ?_; (try simp only [Act.put, List.setIfInBounds_toArray, List.set_cons_zero, List.set_cons_succ])); (refine KS_take 4 (by kernel_rfl) (by decide +kernel) (by decide +kernel) (by exact fun _ _ _ h => h) (by rfl) (by intro w hSw; go_simp; with_reducible rfl) hS ?_; (try simp only [Act.put, List.setIfInBounds_toArray, List.set_cons_zero, List.set_cons_succ])); (refine KS_take 5 (by kernel_rfl) (by decide +kernel) (by decide +kernel) (by exact fun _ _ _ h => h) (by rfl) (by intro w hSw; go_simp; with_reducible rfl) hS ?_; (try simp only [Act.put, List.setIfInBounds_toArray, List.set_cons_zero, List.set_cons_succ])); (refine KS_one 6 (by decide +kernel) (by rfl) (fun K hk => ?_); ((refine KO_appR hK _ _ _ _ rfl rfl rfl (Src.ofSlice _ Try.underlying40 _ _ _ _ hdl (hwr _ hK.has) h1d) (by omega) hfit hspl ?_; (try clear hK); intro w hK; rw [hsum])); (refine hk.out _ _ hK.subs (fun hS => ?_); clear hk K; (try simp only [Act.put, List.setIfInBounds_toArray, List.set_cons_zero, List.set_cons_succ]))); (refine KS_take 7 (by kernel_rfl) (by decide +kernel) (by decide +kernel) (by exact fun _ _ _ h => h) (by rfl) (by intro w hSw; go_simp; with_reducible rfl) hS ?_; (try simp only [Act.put, List.setIfInBounds_toArray, List.set_cons_zero, List.set_cons_succ])); (refine wpAnyH_done (by kernel_rfl) ?_ _); go_wp2_with ((with_reducible change wpList _ _ _ (Oper.mk _ (Op.call _) _ _ _ _ :: _) _ _); refine KL_clear hK (by rfl) _ _ rfl hz1 _ 0 _ rfl (by rw [length_splice _ _ _ (by omega)]; omega) ?_; clear hK; intro zs w hzs hK); go_ret; have hdc := del_cells (junk := junk) (zs := zs) hx hi (by omega); rw [Nat.add_sub_cancel] at hdc; rw [hdc] at hK; refine ⟨_, _, rfl, .row g _ _ ?_ ?_ (by omega) hcap, hK⟩; (rw [List.length_append, List.length_take, List.length_drop]; omega); (rw [List.length_append, List.length_append, List.length_append, List.length_take, List.length_drop]; omega))
end Go.Proofs.Ytpkhomfblilkhaa.E
