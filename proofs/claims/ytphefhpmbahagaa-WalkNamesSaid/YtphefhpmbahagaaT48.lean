/- The document's views: what the functions answer. -/
import Derived.Test.YtphefhpmbahagaaT46
import Derived.Test.YtphefhpmbahagaaT44
import Derived.Test.YtphefhpmbahagaaT32
import Derived.Test.YtphefhpmbahagaaT18
namespace Go.Proofs.Ytphefhpmbahagaa
open Go.RowKit
set_option linter.unusedVariables false
set_option linter.unusedSimpArgs false

theorem ex_walked : walkedE smpT [1, 2, 0] = (0, 0) := by decide +kernel
theorem ex_walked2 : walkedE smpT [1, 0, 2] = (2, 0) := by decide +kernel
theorem ex_times : timesE smpT [0, 1, 2] = ([⟨420, 420⟩, ⟨445, 455⟩, ⟨500, 510⟩], ⟨505, 520⟩, 0) := by decide +kernel
theorem ex_late : lateE smpT [1, 2, 0] = (0, true, 0) := by decide +kernel
theorem ex_late2 : (lateE smpT [0, 1, 2]).2.2 = 4 := by decide +kernel
theorem ex_tours : toursE smpT = (3, 3, 0) := by decide +kernel
theorem ex_short : shortE smpT = ([1, 0, 2], 0) := by decide +kernel
theorem ex_most : mostE smpT = ([1, 0, 2], 0) := by decide +kernel
theorem ex_before : beforeE smpT 1 0 = (1, 0) := by decide +kernel
theorem ex_before2 : beforeE smpT 0 2 = (2, 0) := by decide +kernel
theorem ex_later : laterE smpT [1, 0, 2] = (55, 0) := by decide +kernel
theorem ints_three {w : World} {g : Nat} {a b c : Int} (h : w.heap[g]? = some (.cells #[.int .i64 a, .int .i64 b, .int .i64 c] 3 (0, 0))) : IsInts w (some ⟨g, 0, none⟩) [a, b, c] := fun i hi => by
  have : i = 0 ∨ i = 1 ∨ i = 2 := by simp at hi; omega
  rcases this with rfl | rfl | rfl
  all_goals exact ⟨g, 0, rfl, by rw [cell_of_heap h]; rfl⟩
theorem s_walked {w : World} {A : TrA} (h : IsTr w smpT A) {g : Nat} (hg : w.heap[g]? = some (.cells #[.int .i64 1, .int .i64 2, .int .i64 0] 3 (0, 0))) : Calls Try.prog 14 #[smpT.v A, .slice (some ⟨g, 0, none⟩) 3 3] w fun e w' => e = .returned (.tuple #[.int .i64 0, .int .i64 0]) ∧ Below w.heap.size w w' := by
  have := walked14 (cap := 3) h smp_small (o := [1, 2, 0]) (by decide) (ints_three hg)
  rw [ex_walked] at this
  exact this
theorem s_walked2 {w : World} {A : TrA} (h : IsTr w smpT A) {g : Nat} (hg : w.heap[g]? = some (.cells #[.int .i64 1, .int .i64 0, .int .i64 2] 3 (0, 0))) : Calls Try.prog 14 #[smpT.v A, .slice (some ⟨g, 0, none⟩) 3 3] w fun e w' => e = .returned (.tuple #[.int .i64 2, .int .i64 0]) ∧ Below w.heap.size w w' := by
  have := walked14 (cap := 3) h smp_small (o := [1, 0, 2]) (by decide) (ints_three hg)
  rw [ex_walked2] at this
  exact this
theorem s_times {w : World} {A : TrA} (h : IsTr w smpT A) {g : Nat} (hg : w.heap[g]? = some (.cells #[.int .i64 0, .int .i64 1, .int .i64 2] 3 (0, 0))) : Calls Try.prog 16 #[smpT.v A, .slice (some ⟨g, 0, none⟩) 3 3] w fun e w' => ∃ av cv, e = .returned (.tuple #[.slice av 3 cv, .agg #[.int .i64 505, .int .i64 520], .int .i64 0]) ∧ IsSpns w' av [⟨420, 420⟩, ⟨445, 455⟩, ⟨500, 510⟩] ∧ Below w.heap.size w w' := by
  have := times16 (cap := 3) h smp_small (o := [0, 1, 2]) (by decide) (ints_three hg)
  rw [ex_times] at this
  exact this
theorem s_late {w : World} {A : TrA} (h : IsTr w smpT A) {g : Nat} (hg : w.heap[g]? = some (.cells #[.int .i64 1, .int .i64 2, .int .i64 0] 3 (0, 0))) : Calls Try.prog 18 #[smpT.v A, .slice (some ⟨g, 0, none⟩) 3 3] w fun e w' => e = .returned (.tuple #[.int .i64 0, .bool true, .int .i64 0]) ∧ Below w.heap.size w w' := by
  have := late18 (cap := 3) h smp_small (o := [1, 2, 0]) (by decide) (ints_three hg)
  rw [ex_late] at this
  exact this
theorem s_late2 {w : World} {A : TrA} (h : IsTr w smpT A) {g : Nat} (hg : w.heap[g]? = some (.cells #[.int .i64 0, .int .i64 1, .int .i64 2] 3 (0, 0))) : Calls Try.prog 18 #[smpT.v A, .slice (some ⟨g, 0, none⟩) 3 3] w fun e w' => ∃ (x : Int) (b : Bool), e = .returned (.tuple #[.int .i64 x, .bool b, .int .i64 4]) ∧ Below w.heap.size w w' := by
  have := late18 (cap := 3) h smp_small (o := [0, 1, 2]) (by decide) (ints_three hg)
  rw [ex_late2] at this
  exact this.mono fun e w' he => ⟨_, _, he⟩
theorem s_tours {w : World} {A : TrA} (h : IsTr w smpT A) : Calls Try.prog 23 #[smpT.v A] w fun e w' => e = .returned (.tuple #[.int .i64 3, .int .i64 3, .int .i64 0]) ∧ Below w.heap.size w w' := by
  have := tours23 h smp_small
  rw [ex_tours] at this
  exact this
theorem s_ord {w : World} {A : TrA} {f : Nat} {r : List Int × Int} (hr : r = ([1, 0, 2], 0)) (hc : Calls Try.prog f #[smpT.v A] w fun e w' => OrdRet w w' e r) : Calls Try.prog f #[smpT.v A] w fun e w' => ∃ av cv, e = .returned (.tuple #[.slice av 3 cv, .int .i64 0]) ∧ IsInts w' av [1, 0, 2] ∧ Below w.heap.size w w' := by
  subst hr
  refine hc.mono ?_
  rintro e w' ⟨⟨o, ov, a, c⟩, rfl, ho, hat, hb⟩
  have ho : o = [1, 0, 2] := ho
  subst ho
  exact ⟨a, c, rfl, hat.ints, hb⟩
theorem s_short {w : World} {A : TrA} (h : IsTr w smpT A) : Calls Try.prog 25 #[smpT.v A] w fun e w' => ∃ av cv, e = .returned (.tuple #[.slice av 3 cv, .int .i64 0]) ∧ IsInts w' av [1, 0, 2] ∧ Below w.heap.size w w' := s_ord ex_short (shortest25 h smp_small)
theorem s_most {w : World} {A : TrA} (h : IsTr w smpT A) : Calls Try.prog 27 #[smpT.v A] w fun e w' => ∃ av cv, e = .returned (.tuple #[.slice av 3 cv, .int .i64 0]) ∧ IsInts w' av [1, 0, 2] ∧ Below w.heap.size w w' := s_ord ex_most (most27 h smp_small)
theorem s_before {w : World} {A : TrA} (h : IsTr w smpT A) : Calls Try.prog 29 #[smpT.v A, .int .i64 1, .int .i64 0] w fun e w' => e = .returned (.tuple #[.int .i64 1, .int .i64 0]) ∧ Below w.heap.size w w' := by
  have := before29 h smp_small 1 0
  rw [ex_before] at this
  exact this
theorem s_before2 {w : World} {A : TrA} (h : IsTr w smpT A) : Calls Try.prog 29 #[smpT.v A, .int .i64 0, .int .i64 2] w fun e w' => e = .returned (.tuple #[.int .i64 2, .int .i64 0]) ∧ Below w.heap.size w w' := by
  have := before29 h smp_small 0 2
  rw [ex_before2] at this
  exact this
theorem s_later {w : World} {A : TrA} (h : IsTr w smpT A) {g : Nat} (hg : w.heap[g]? = some (.cells #[.int .i64 1, .int .i64 0, .int .i64 2] 3 (0, 0))) : Calls Try.prog 20 #[smpT.v A, .slice (some ⟨g, 0, none⟩) 3 3] w fun e w' => e = .returned (.tuple #[.int .i64 55, .int .i64 0]) ∧ Below w.heap.size w w' := by
  have := later20 (cap := 3) h smp_small (o := [1, 0, 2]) (by decide) (ints_three hg)
  rw [ex_later] at this
  exact this
end Go.Proofs.Ytphefhpmbahagaa
