/- A walk by one end of its spans. -/
import Derived.Test.YtphefhpmbahagaaT25
namespace Go.Proofs.Ytphefhpmbahagaa
open Go.RowKit
set_option linter.unusedVariables false
set_option linter.unusedSimpArgs false

def sel (q : Bool) (p : Int × Int) : Int := if q then p.2 else p.1
def Spn.sel (q : Bool) (s : Spn) : Int := if q then s.hi else s.lo
def Tr.minAt (t : Tr) (q : Bool) (o : List Int) (i : Nat) : Int := Go.Proofs.Ytphefhpmbahagaa.sel q (t.begin (t.at_ o i).1 (gi o i) (t.at_ o i).2)
def Tr.mins (t : Tr) (q : Bool) (o : List Int) : List Int := (List.range o.length).map (t.minAt q o)
theorem mins_len (t : Tr) (q : Bool) (o : List Int) : (t.mins q o).length = o.length := by simp [Tr.mins]
theorem mins_at (t : Tr) (q : Bool) {o : List Int} {i : Nat} (h : i < o.length) : gi (t.mins q o) i = t.minAt q o i := by simp [gi,Tr.mins,h]
theorem sel_begin (t : Tr) (q : Bool) (f v : Int) (n : Int × Int) : sel q (t.begin f v n) = max (sel q n + (t.way f v).sel q) (gs t.light v.toNat).lo := by cases q <;> rfl
theorem sel_after (t : Tr) (q : Bool) (v : Int) (n : Int × Int) : sel q (t.after v n) = sel q n + (gs t.stay v.toNat).sel q := by cases q <;> rfl
theorem sel_next (t : Tr) (q : Bool) {o : List Int} {k : Nat} (h : k < o.length) : sel q (t.at_ o (k + 1)).2 = t.minAt q o k + (gs t.stay (gi o k).toNat).sel q := by
  rw [at_succ t h]
  exact sel_after t q _ _
theorem holds_sel (t : Tr) (q : Bool) (x : Int) (p : Int × Int) : t.holds q (x,p) = decide (sel q p ≤ (gs t.light x.toNat).hi) := by cases q <;> rfl
theorem inL_is (t : Tr) (q : Bool) (o : List Int) : t.inL o (t.mins q o) o.length = t.is q o := by
  rw [Bool.eq_iff_iff,Tr.inL,Tr.is,List.all_eq_true,List.all_eq_true]
  constructor
  · intro h x hx
    obtain ⟨i,hi⟩ := List.getElem?_of_mem hx
    have hil : i < o.length := by
      have := (List.getElem?_eq_some_iff.1 hi).1
      rwa [steps_len] at this
    rw [steps_at t hil] at hi
    cases hi
    have := h i (by simp [hil])
    rw [mins_at t q hil] at this
    rw [holds_sel]
    exact this
  · intro h i hi
    have hil : i < o.length := by simpa using hi
    have := h _ (List.mem_of_getElem? (steps_at t hil))
    rw [holds_sel] at this
    rw [mins_at t q hil]
    exact this
end Go.Proofs.Ytphefhpmbahagaa
