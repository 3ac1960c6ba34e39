/- A tree in memory, by its entries: the contracts of New, Set, Del, After, Len, Next. -/
import Derived.Test.YtpkhomfblilkhaaF19
namespace Go.Proofs.Ytpkhomfblilkhaa.E
set_option linter.all false
open Go Go.RowKit

/-- At block b lies a tree of these entries. -/
def Tree (b : Nat) (es : List Ent) (M : Mem) : Prop := ∃ x : Top, Inv x ∧ entsT x = es ∧ RepTop x es.length b M
theorem Tree.asc {b : Nat} {es : List Ent} {M : Mem} (h : Tree b es M) : Asc Ent.n es := by
  obtain ⟨x, hi, rfl, _⟩ := h
  exact bnd_asc x.1 hi.bnd
/-- A tree is changed in its place. -/
def TreeRet (F : Nat → Prop) (w0 : World) (L : Mem) (b : Nat) (es : List Ent) (r : Value) : Ending → World → Prop := fun e w' => e = .returned r ∧ ∃ M', Tree b es M' ∧ Kn F w0 w' (M' ++ L)
def NewRet (F : Nat → Prop) (w0 : World) (L : Mem) : Ending → World → Prop := fun r w' => ∃ b M', r = .returned (.pointer (some ⟨b, 0, none⟩)) ∧ Tree b [] M' ∧ Kn F w0 w' (M' ++ L)
section
variable {F : Nat → Prop} {w0 w : World} {L M : Mem} {b : Nat} {es : List Ent}
theorem New_t (hK : Kn F w0 w L) : Calls Try.prog 28 #[] w (NewRet F w0 L) := by
  refine (New_c hK).mono ?_
  rintro r w' ⟨b, rfl, M', hM, h'⟩
  exact ⟨b, M', rfl, ⟨_, inv_new, rfl, hM⟩, h'⟩
theorem Set_t (e : Ent) (hK : Kn F w0 w (M ++ L)) (hT : Tree b es M) (hn : es.length ≤ 1000000) : Calls Try.prog 22 #[.pointer (some ⟨b, 0, none⟩), .agg (U e.b).toArray] w (TreeRet F w0 L b (insE es e) (.int .i64 0)) := by
  obtain ⟨x, hi, rfl, hR⟩ := hT
  have hg := inv_good hi e
  refine (Set_c hK hR hg.1 hg.2 hn).mono ?_
  rintro r w' ⟨rfl, M', hM, h'⟩
  rw [fresh_len hi e] at hM
  have := set_inv hi e
  rw [this.2] at hM
  exact ⟨rfl, M', ⟨_, this.1, this.2, hM⟩, h'⟩
theorem Del_t (k : Ky) (hK : Kn F w0 w (M ++ L)) (hT : Tree b es M) (hn : es.length ≤ 1000000) : Calls Try.prog 24 #[.pointer (some ⟨b, 0, none⟩), .agg (U k.b).toArray] w (TreeRet F w0 L b (delE es k.n) (.int .i64 (if hasN es k.n = true then 0 else 6))) := by
  obtain ⟨x, hi, rfl, hR⟩ := hT
  have hg := inv_goodD hi k.n_lt
  have hd := del_inv hi k.n_lt
  refine (Del_c hK hR hg.1 hg.2 hn (was_pos hi k.n_lt)).mono ?_
  rintro r w' ⟨rfl, M', hM, h'⟩
  rw [del_len hi k.n_lt, hd.2.1] at hM
  rw [hd.2.2]
  exact ⟨rfl, M', ⟨_, hd.1, hd.2.1, hM⟩, h'⟩
theorem After_t (k : Ky) (wi : Bool) (hK : Kn F w0 w (M ++ L)) (hT : Tree b es M) : Calls Try.prog 36 #[.pointer (some ⟨b, 0, none⟩), .agg (U k.b).toArray, .bool wi] w (EntRet F w0 (M ++ L) (es.find? (behind k.n wi))) := by
  obtain ⟨x, hi, rfl, hR⟩ := hT
  have := After_c k wi hK hR (inv_ok hi)
  rw [after_spec k.n wi x.1 hi.bnd] at this
  exact this
theorem Len_t (hK : Kn F w0 w (M ++ L)) (hT : Tree b es M) : Calls Try.prog 20 #[.pointer (some ⟨b, 0, none⟩)] w fun r w' => r = .returned (.int .i64 es.length) ∧ Kn F w0 w' (M ++ L) := by
  obtain ⟨x, hi, rfl, hR⟩ := hT
  exact Len_c hK hR
end
/-- What a cursor tells next. -/
def nextE (es : List Ent) (f g : Ky) (wi : Bool) : Option Ent := match es.find? (behind f.n wi) with
  | none => none
  | some e => if e.n < g.n then some e else none
def NxtRet (F : Nat → Prop) (w0 : World) (L : Mem) (x : Option Ent) (c b : Nat) (f g : Ky) (wi : Bool) : Ending → World → Prop := fun r w' =>
  r = .returned (.tuple #[.agg (U (x.getD Ent.zero).b).toArray, .bool x.isSome]) ∧ Kn F w0 w' ((c, 33, curRow (aftV b) (match x with | none => f | some e => e.ky) g (wi && x.isNone)) :: L)
theorem Next_t {F : Nat → Prop} {w0 w : World} {L M : Mem} {b c : Nat} {es : List Ent} {f g : Ky} {wi : Bool} (hK : Kn F w0 w ((c, 33, curRow (aftV b) f g wi) :: (M ++ L))) (hT : Tree b es M) :
    Calls Try.prog 13 #[.pointer (some ⟨c, 0, none⟩)] w (NxtRet F w0 (M ++ L) (nextE es f g wi) c b f g wi) := by
  obtain ⟨x, hi, rfl, hR⟩ := hT
  have hx : nextT x f g wi = nextE (entsT x) f g wi := by
    unfold nextT nextE
    rw [after_spec f.n wi x.1 hi.bnd]
    rfl
  refine (Next_c hK hR (inv_ok hi)).mono ?_
  intro r w' h
  unfold NextRet at h
  rw [hx] at h
  cases hc : nextE (entsT x) f g wi with
  | none =>
    rw [hc] at h
    obtain ⟨rfl, h'⟩ := h
    refine ⟨rfl, ?_⟩
    rw [show (wi && (none : Option Ent).isNone) = wi by simp]
    exact h'
  | some e =>
    rw [hc] at h
    obtain ⟨rfl, h'⟩ := h
    refine ⟨rfl, ?_⟩
    rw [show (wi && (some e : Option Ent).isNone) = false by simp]
    exact h'
end Go.Proofs.Ytpkhomfblilkhaa.E
