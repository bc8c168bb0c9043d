/- WalkTurned: the number of a view; rows that are made; the drawn region that makes a tour. -/
import Derived.Test.YtphefhpmbahagaaT82
import Derived.Test.YtphefhpmbahagaaT85
namespace Go.Proofs.Ytphefhpmbahagaa
open Go.RowKit
set_option linter.unusedVariables false
set_option linter.unusedSimpArgs false

set_option maxHeartbeats 2000000 in
theorem number43 {w : World} {b5 bn c n v : Nat} (h5 : w.cell? ⟨b5,0,none⟩ = some (.int .u8 (c : Int))) (hn : w.cell? ⟨bn,0,none⟩ = some (.int .i64 (n : Int))) (hc : c ≤ 255) (hn0 : 0 < n) (hn6 : n ≤ 16) (hv : v ≤ 16) :
    Calls Try.prog 43 #[.int .i64 (v : Int),.pointer (some ⟨b5,0,none⟩),.pointer (some ⟨bn,0,none⟩)] w fun e w' => e = .returned (.int .i64 (((v + c) % n : Nat) : Int)) ∧ w = w' := by
  have y0 : IntKind.i64.wrap (c : Int) = (c : Int) := IntWalk.i64_in _ (by omega)
  have y1 : IntKind.i64.wrap ((v : Int) + (c : Int)) = (v : Int) + (c : Int) := IntWalk.i64_in _ (by omega)
  have y2 : ((v : Int) + (c : Int)).tmod (n : Int) = (((v + c) % n : Nat) : Int) := by rw [Int.tmod_eq_emod_of_nonneg (by omega)]; simp
  have y3 : ¬ n = 0 := by omega
  go_enter Try.func43,Try.ntmps43
  go_wp2
  go_ret
  exact ⟨rfl,rfl⟩
theorem make22 {n : Nat} (hn : n ≤ 16) (w : World) : (Instr.makeSlice 22 (.int .i64 (n : Int)) (.int .i64 (n : Int))).run Try.prog w = .ok (.slice (some ⟨w.heap.size,0,none⟩) n n) (w.alloc (.cells (madeCells #[.int .i64 0,.int .i64 0] (n * 2)) 33)) := by
  obtain ⟨i0,hi0,hi1,hi2,hi3⟩ := info_parts2 infoSp
  have h := run_make (P := Try.prog) (w := w) 22 33 i0 _ Try.underlying22 hi0 hi1 .i64 .i64 (n : Int) (n : Int) (by omega) (by omega) (by rw [hi3]; omega) (by omega)
  simpa [hi2,Value.cells] using h
theorem make23 {n : Nat} (hn : n ≤ 16) (w : World) : (Instr.makeSlice 23 (.int .i64 (n : Int)) (.int .i64 (n : Int))).run Try.prog w = .ok (.slice (some ⟨w.heap.size,0,none⟩) n n) (w.alloc (.cells (madeCells #[.slice none 0 0] n) 22)) := by
  obtain ⟨i0,hi0,hi1,hi2,hi3⟩ := info_parts infoW
  have h := run_make (P := Try.prog) (w := w) 23 22 i0 _ Try.underlying23 hi0 hi1 .i64 .i64 (n : Int) (n : Int) (by omega) (by omega) (by rw [hi3]; omega) (by omega)
  simpa [hi2,Value.cells] using h
/-- A row of spans that is made. -/
theorem made_sprow {w : World} {g n : Nat} (h : w.heap[g]? = some (.cells (madeCells #[.int .i64 0,.int .i64 0] (n * 2)) 33 (0,0))) : SpRow g (List.replicate n ⟨0,0⟩) w := by
  refine ⟨_,h,fun i hi => ?_⟩
  rw [List.length_replicate] at hi
  have e : gs (List.replicate n (⟨0,0⟩ : Spn)) i = ⟨0,0⟩ := by simp [gs,hi]
  rw [e]
  have hs : (madeCells #[Value.int .i64 0,.int .i64 0] (n * 2)).size = n * 2 := by simp [madeCells]
  refine ⟨?_,?_⟩
  · rw [Array.getElem?_eq_getElem (by rw [hs]; omega)]
    simp [madeCells]
  · rw [Array.getElem?_eq_getElem (by rw [hs]; omega)]
    simp [madeCells,Nat.add_mod]
structure tur5F (W1 : World) (n : Nat) (dw : Int) (bx : Nat) (d : Nat → Bool) (x74 x75 x76 x77 x78 x79 x80 x81 x82 x83 x84 x9 : Value) (w : World) : Prop where
  same : Below W1.heap.size W1 w
  f0 : d 0 = true → x74 = .pointer (some ⟨bx,0,none⟩)
  f1 : d 1 = true → x75 = .int .i64 dw
  f2 : d 2 = true → x76 = .int .i64 (n : Int)
  f4 : d 4 = true → x78 = .int .i64 (n : Int)
  f6 : d 6 = true → x80 = .int .i64 (n : Int)
  f8 : d 8 = true → x82 = .int .i64 (n : Int)
  m3 : d 3 = true → ∃ g : Nat,x77 = .slice (some ⟨g,0,none⟩) n n ∧ W1.heap.size ≤ g ∧ w.heap[g]? = some (.cells (madeCells #[.int .i64 0,.int .i64 0] (n * 2)) 33 (0,0))
  m5 : d 5 = true → ∃ g : Nat,x79 = .slice (some ⟨g,0,none⟩) n n ∧ W1.heap.size ≤ g ∧ w.heap[g]? = some (.cells (madeCells #[.slice none 0 0] n) 22 (0,0))
  m7 : d 7 = true → ∃ g : Nat,x81 = .slice (some ⟨g,0,none⟩) n n ∧ W1.heap.size ≤ g ∧ w.heap[g]? = some (.cells (madeCells #[.int .i64 0,.int .i64 0] (n * 2)) 33 (0,0))
  m9 : d 9 = true → ∃ g : Nat,x83 = .slice (some ⟨g,0,none⟩) n n ∧ W1.heap.size ≤ g ∧ w.heap[g]? = some (.cells (madeCells #[.int .i64 0,.int .i64 0] (n * 2)) 33 (0,0))
  q10 : d 10 = true → d 1 = true ∧ d 3 = true ∧ d 5 = true ∧ d 7 = true ∧ d 9 = true
  f10 : d 10 = true → x84 = .agg #[.int .i64 dw,x77,x79,x81,x83]
  q12 : d 12 = true → d 11 = true ∧ d 10 = true
  f11 : d 11 = true → ∃ g : Nat,x9 = .pointer (some ⟨g,0,none⟩) ∧ W1.heap.size ≤ g ∧ w.heap[g]? = some (.cells (if d 12 then #[.int .i64 dw,x77,x79,x81,x83] else #[.int .i64 0,.slice none 0 0,.slice none 0 0,.slice none 0 0,.slice none 0 0]) 25 (0,0))
  n3_7 : d 3 = true → d 7 = true → x77 ≠ x81
  n3_9 : d 3 = true → d 9 = true → x77 ≠ x83
  n7_9 : d 7 = true → d 9 = true → x81 ≠ x83
section
variable {W1 : World} {n : Nat} {dw : Int} {bx : Nat} {d : Nat → Bool} {x74 x75 x76 x77 x78 x79 x80 x81 x82 x83 x84 x9 : Value} {w w' : World}
theorem tur5F.s0 (F : tur5F W1 n dw bx d x74 x75 x76 x77 x78 x79 x80 x81 x82 x83 x84 x9 w) : tur5F W1 n dw bx (upd d 0) (.pointer (some ⟨bx,0,none⟩)) x75 x76 x77 x78 x79 x80 x81 x82 x83 x84 x9 w := ⟨F.same,fun _ => rfl,F.f1,F.f2,F.f4,F.f6,F.f8,F.m3,F.m5,F.m7,F.m9,F.q10,F.f10,F.q12,F.f11,F.n3_7,F.n3_9,F.n7_9⟩
theorem tur5F.s1 (F : tur5F W1 n dw bx d x74 x75 x76 x77 x78 x79 x80 x81 x82 x83 x84 x9 w) : tur5F W1 n dw bx (upd d 1) x74 (.int .i64 dw) x76 x77 x78 x79 x80 x81 x82 x83 x84 x9 w := ⟨F.same,F.f0,fun _ => rfl,F.f2,F.f4,F.f6,F.f8,F.m3,F.m5,F.m7,F.m9,fun h => ⟨rfl,(F.q10 h).2⟩,F.f10,F.q12,F.f11,F.n3_7,F.n3_9,F.n7_9⟩
theorem tur5F.s2 (F : tur5F W1 n dw bx d x74 x75 x76 x77 x78 x79 x80 x81 x82 x83 x84 x9 w) : tur5F W1 n dw bx (upd d 2) x74 x75 (.int .i64 (n : Int)) x77 x78 x79 x80 x81 x82 x83 x84 x9 w := ⟨F.same,F.f0,F.f1,fun _ => rfl,F.f4,F.f6,F.f8,F.m3,F.m5,F.m7,F.m9,F.q10,F.f10,F.q12,F.f11,F.n3_7,F.n3_9,F.n7_9⟩
theorem tur5F.s4 (F : tur5F W1 n dw bx d x74 x75 x76 x77 x78 x79 x80 x81 x82 x83 x84 x9 w) : tur5F W1 n dw bx (upd d 4) x74 x75 x76 x77 (.int .i64 (n : Int)) x79 x80 x81 x82 x83 x84 x9 w := ⟨F.same,F.f0,F.f1,F.f2,fun _ => rfl,F.f6,F.f8,F.m3,F.m5,F.m7,F.m9,F.q10,F.f10,F.q12,F.f11,F.n3_7,F.n3_9,F.n7_9⟩
theorem tur5F.s6 (F : tur5F W1 n dw bx d x74 x75 x76 x77 x78 x79 x80 x81 x82 x83 x84 x9 w) : tur5F W1 n dw bx (upd d 6) x74 x75 x76 x77 x78 x79 (.int .i64 (n : Int)) x81 x82 x83 x84 x9 w := ⟨F.same,F.f0,F.f1,F.f2,F.f4,fun _ => rfl,F.f8,F.m3,F.m5,F.m7,F.m9,F.q10,F.f10,F.q12,F.f11,F.n3_7,F.n3_9,F.n7_9⟩
theorem tur5F.s8 (F : tur5F W1 n dw bx d x74 x75 x76 x77 x78 x79 x80 x81 x82 x83 x84 x9 w) : tur5F W1 n dw bx (upd d 8) x74 x75 x76 x77 x78 x79 x80 x81 (.int .i64 (n : Int)) x83 x84 x9 w := ⟨F.same,F.f0,F.f1,F.f2,F.f4,F.f6,fun _ => rfl,F.m3,F.m5,F.m7,F.m9,F.q10,F.f10,F.q12,F.f11,F.n3_7,F.n3_9,F.n7_9⟩
theorem tur5F.s10 (F : tur5F W1 n dw bx d x74 x75 x76 x77 x78 x79 x80 x81 x82 x83 x84 x9 w) (h1 : d 1 = true) (h3 : d 3 = true) (h5 : d 5 = true) (h7 : d 7 = true) (h9 : d 9 = true) : tur5F W1 n dw bx (upd d 10) x74 x75 x76 x77 x78 x79 x80 x81 x82 x83 (.agg #[.int .i64 dw,x77,x79,x81,x83]) x9 w := ⟨F.same,F.f0,F.f1,F.f2,F.f4,F.f6,F.f8,F.m3,F.m5,F.m7,F.m9,fun _ => ⟨h1,h3,h5,h7,h9⟩,fun _ => rfl,fun h => ⟨(F.q12 h).1,rfl⟩,F.f11,F.n3_7,F.n3_9,F.n7_9⟩
theorem tur5F.below (F : tur5F W1 n dw bx d x74 x75 x76 x77 x78 x79 x80 x81 x82 x83 x84 x9 w) (hb : Below w.heap.size w w') : tur5F W1 n dw bx d x74 x75 x76 x77 x78 x79 x80 x81 x82 x83 x84 x9 w' := by
  refine ⟨F.same.trans (hb.mono F.same.size),F.f0,F.f1,F.f2,F.f4,F.f6,F.f8,?_,?_,?_,?_,F.q10,F.f10,F.q12,?_,F.n3_7,F.n3_9,F.n7_9⟩
  · intro h
    obtain ⟨g,h1,h2,h3⟩ := F.m3 h
    exact ⟨g,h1,h2,(hb.block _ (heap_lt h3)).trans h3⟩
  · intro h
    obtain ⟨g,h1,h2,h3⟩ := F.m5 h
    exact ⟨g,h1,h2,(hb.block _ (heap_lt h3)).trans h3⟩
  · intro h
    obtain ⟨g,h1,h2,h3⟩ := F.m7 h
    exact ⟨g,h1,h2,(hb.block _ (heap_lt h3)).trans h3⟩
  · intro h
    obtain ⟨g,h1,h2,h3⟩ := F.m9 h
    exact ⟨g,h1,h2,(hb.block _ (heap_lt h3)).trans h3⟩
  · intro h
    obtain ⟨g,h1,h2,h3⟩ := F.f11 h
    exact ⟨g,h1,h2,(hb.block _ (heap_lt h3)).trans h3⟩
theorem tur5F.s3 (F : tur5F W1 n dw bx d x74 x75 x76 x77 x78 x79 x80 x81 x82 x83 x84 x9 w) (hd : d 3 = false) : tur5F W1 n dw bx (upd d 3) x74 x75 x76 (.slice (some ⟨w.heap.size,0,none⟩) n n) x78 x79 x80 x81 x82 x83 x84 x9 (w.alloc (.cells (madeCells #[.int .i64 0,.int .i64 0] (n * 2)) 33)) := by
  have G := F.below ((Below.refl _ w).alloc (Nat.le_refl _) (.cells (madeCells #[.int .i64 0,.int .i64 0] (n * 2)) 33))
  have e10 : d 10 = false := by
    cases e : d 10 with
    | false => rfl
    | true => have h2 := (F.q10 e).2.1; rw [hd] at h2; cases h2
  have e12 : d 12 = false := by
    cases e : d 12 with
    | false => rfl
    | true => have h2 := (F.q12 e).2; rw [e10] at h2; cases h2
  refine ⟨G.same,G.f0,G.f1,G.f2,G.f4,G.f6,G.f8,?_,G.m5,G.m7,G.m9,fun h => (by have h2 : d 10 = true := h; rw [e10] at h2; cases h2),fun h => (by have h2 : d 10 = true := h; rw [e10] at h2; cases h2),fun h => (by have h2 : d 12 = true := h; rw [e12] at h2; cases h2),?_,fun _ h e => (by obtain ⟨g,h1,h2,h3⟩ := F.m7 h; rw [h1] at e; have h4 := heap_lt h3; simp only [Value.slice.injEq,Option.some.injEq,Addr.mk.injEq] at e; omega),fun _ h e => (by obtain ⟨g,h1,h2,h3⟩ := F.m9 h; rw [h1] at e; have h4 := heap_lt h3; simp only [Value.slice.injEq,Option.some.injEq,Addr.mk.injEq] at e; omega),G.n7_9⟩
  · exact fun _ => ⟨_,rfl,F.same.size,World.alloc_heap_new w _⟩
  · intro h
    obtain ⟨g,h1,h2,h3⟩ := G.f11 h
    have e : upd d 3 12 = false := e12
    rw [e12] at h3
    rw [e]
    exact ⟨g,h1,h2,h3⟩
theorem tur5F.s5 (F : tur5F W1 n dw bx d x74 x75 x76 x77 x78 x79 x80 x81 x82 x83 x84 x9 w) (hd : d 5 = false) : tur5F W1 n dw bx (upd d 5) x74 x75 x76 x77 x78 (.slice (some ⟨w.heap.size,0,none⟩) n n) x80 x81 x82 x83 x84 x9 (w.alloc (.cells (madeCells #[.slice none 0 0] n) 22)) := by
  have G := F.below ((Below.refl _ w).alloc (Nat.le_refl _) (.cells (madeCells #[.slice none 0 0] n) 22))
  have e10 : d 10 = false := by
    cases e : d 10 with
    | false => rfl
    | true => have h2 := (F.q10 e).2.2.1; rw [hd] at h2; cases h2
  have e12 : d 12 = false := by
    cases e : d 12 with
    | false => rfl
    | true => have h2 := (F.q12 e).2; rw [e10] at h2; cases h2
  refine ⟨G.same,G.f0,G.f1,G.f2,G.f4,G.f6,G.f8,G.m3,?_,G.m7,G.m9,fun h => (by have h2 : d 10 = true := h; rw [e10] at h2; cases h2),fun h => (by have h2 : d 10 = true := h; rw [e10] at h2; cases h2),fun h => (by have h2 : d 12 = true := h; rw [e12] at h2; cases h2),?_,G.n3_7,G.n3_9,G.n7_9⟩
  · exact fun _ => ⟨_,rfl,F.same.size,World.alloc_heap_new w _⟩
  · intro h
    obtain ⟨g,h1,h2,h3⟩ := G.f11 h
    have e : upd d 5 12 = false := e12
    rw [e12] at h3
    rw [e]
    exact ⟨g,h1,h2,h3⟩
theorem tur5F.s7 (F : tur5F W1 n dw bx d x74 x75 x76 x77 x78 x79 x80 x81 x82 x83 x84 x9 w) (hd : d 7 = false) : tur5F W1 n dw bx (upd d 7) x74 x75 x76 x77 x78 x79 x80 (.slice (some ⟨w.heap.size,0,none⟩) n n) x82 x83 x84 x9 (w.alloc (.cells (madeCells #[.int .i64 0,.int .i64 0] (n * 2)) 33)) := by
  have G := F.below ((Below.refl _ w).alloc (Nat.le_refl _) (.cells (madeCells #[.int .i64 0,.int .i64 0] (n * 2)) 33))
  have e10 : d 10 = false := by
    cases e : d 10 with
    | false => rfl
    | true => have h2 := (F.q10 e).2.2.2.1; rw [hd] at h2; cases h2
  have e12 : d 12 = false := by
    cases e : d 12 with
    | false => rfl
    | true => have h2 := (F.q12 e).2; rw [e10] at h2; cases h2
  refine ⟨G.same,G.f0,G.f1,G.f2,G.f4,G.f6,G.f8,G.m3,G.m5,?_,G.m9,fun h => (by have h2 : d 10 = true := h; rw [e10] at h2; cases h2),fun h => (by have h2 : d 10 = true := h; rw [e10] at h2; cases h2),fun h => (by have h2 : d 12 = true := h; rw [e12] at h2; cases h2),?_,fun h _ e => (by obtain ⟨g,h1,h2,h3⟩ := F.m3 h; rw [h1] at e; have h4 := heap_lt h3; simp only [Value.slice.injEq,Option.some.injEq,Addr.mk.injEq] at e; omega),G.n3_9,fun _ h e => (by obtain ⟨g,h1,h2,h3⟩ := F.m9 h; rw [h1] at e; have h4 := heap_lt h3; simp only [Value.slice.injEq,Option.some.injEq,Addr.mk.injEq] at e; omega)⟩
  · exact fun _ => ⟨_,rfl,F.same.size,World.alloc_heap_new w _⟩
  · intro h
    obtain ⟨g,h1,h2,h3⟩ := G.f11 h
    have e : upd d 7 12 = false := e12
    rw [e12] at h3
    rw [e]
    exact ⟨g,h1,h2,h3⟩
theorem tur5F.s9 (F : tur5F W1 n dw bx d x74 x75 x76 x77 x78 x79 x80 x81 x82 x83 x84 x9 w) (hd : d 9 = false) : tur5F W1 n dw bx (upd d 9) x74 x75 x76 x77 x78 x79 x80 x81 x82 (.slice (some ⟨w.heap.size,0,none⟩) n n) x84 x9 (w.alloc (.cells (madeCells #[.int .i64 0,.int .i64 0] (n * 2)) 33)) := by
  have G := F.below ((Below.refl _ w).alloc (Nat.le_refl _) (.cells (madeCells #[.int .i64 0,.int .i64 0] (n * 2)) 33))
  have e10 : d 10 = false := by
    cases e : d 10 with
    | false => rfl
    | true => have h2 := (F.q10 e).2.2.2.2; rw [hd] at h2; cases h2
  have e12 : d 12 = false := by
    cases e : d 12 with
    | false => rfl
    | true => have h2 := (F.q12 e).2; rw [e10] at h2; cases h2
  refine ⟨G.same,G.f0,G.f1,G.f2,G.f4,G.f6,G.f8,G.m3,G.m5,G.m7,?_,fun h => (by have h2 : d 10 = true := h; rw [e10] at h2; cases h2),fun h => (by have h2 : d 10 = true := h; rw [e10] at h2; cases h2),fun h => (by have h2 : d 12 = true := h; rw [e12] at h2; cases h2),?_,G.n3_7,fun h _ e => (by obtain ⟨g,h1,h2,h3⟩ := F.m3 h; rw [h1] at e; have h4 := heap_lt h3; simp only [Value.slice.injEq,Option.some.injEq,Addr.mk.injEq] at e; omega),fun h _ e => (by obtain ⟨g,h1,h2,h3⟩ := F.m7 h; rw [h1] at e; have h4 := heap_lt h3; simp only [Value.slice.injEq,Option.some.injEq,Addr.mk.injEq] at e; omega)⟩
  · exact fun _ => ⟨_,rfl,F.same.size,World.alloc_heap_new w _⟩
  · intro h
    obtain ⟨g,h1,h2,h3⟩ := G.f11 h
    have e : upd d 9 12 = false := e12
    rw [e12] at h3
    rw [e]
    exact ⟨g,h1,h2,h3⟩
theorem tur5F.s11 (F : tur5F W1 n dw bx d x74 x75 x76 x77 x78 x79 x80 x81 x82 x83 x84 x9 w) (hd : d 11 = false) : tur5F W1 n dw bx (upd d 11) x74 x75 x76 x77 x78 x79 x80 x81 x82 x83 x84 (.pointer (some ⟨w.heap.size,0,none⟩)) (w.alloc (.cells #[.int .i64 0,.slice none 0 0,.slice none 0 0,.slice none 0 0,.slice none 0 0] 25)) := by
  have G := F.below ((Below.refl _ w).alloc (Nat.le_refl _) (.cells #[.int .i64 0,.slice none 0 0,.slice none 0 0,.slice none 0 0,.slice none 0 0] 25))
  have e12 : d 12 = false := by
    cases e : d 12 with
    | false => rfl
    | true => have h2 := (F.q12 e).1; rw [hd] at h2; cases h2
  refine ⟨G.same,G.f0,G.f1,G.f2,G.f4,G.f6,G.f8,G.m3,G.m5,G.m7,G.m9,G.q10,G.f10,fun h => (by have h2 : d 12 = true := h; rw [e12] at h2; cases h2),?_,G.n3_7,G.n3_9,G.n7_9⟩
  intro _
  have e : upd d 11 12 = false := e12
  rw [e]
  exact ⟨_,rfl,F.same.size,World.alloc_heap_new w _⟩
theorem tur5F.s12 (F : tur5F W1 n dw bx d x74 x75 x76 x77 x78 x79 x80 x81 x82 x83 x84 x9 w) (h10 : d 10 = true) (h11 : d 11 = true) {g : Nat} (hg : W1.heap.size ≤ g) (hx : x9 = .pointer (some ⟨g,0,none⟩)) (hh : w.heap[g]? = some (.cells #[.int .i64 0,.slice none 0 0,.slice none 0 0,.slice none 0 0,.slice none 0 0] 25 (0,0))) : tur5F W1 n dw bx (upd d 12) x74 x75 x76 x77 x78 x79 x80 x81 x82 x83 x84 x9 (((((w.setCell ⟨g,0,none⟩ (.int .i64 dw)).setCell ⟨g,1,none⟩ x77).setCell ⟨g,2,none⟩ x79).setCell ⟨g,3,none⟩ x81).setCell ⟨g,4,none⟩ x83) := by
  refine ⟨(((((F.same).setCell (p := ⟨g,0,none⟩) hg (.int .i64 dw)).setCell (p := ⟨g,1,none⟩) hg x77).setCell (p := ⟨g,2,none⟩) hg x79).setCell (p := ⟨g,3,none⟩) hg x81).setCell (p := ⟨g,4,none⟩) hg x83,F.f0,F.f1,F.f2,F.f4,F.f6,F.f8,?_,?_,?_,?_,F.q10,F.f10,fun _ => ⟨h11,h10⟩,?_,F.n3_7,F.n3_9,F.n7_9⟩
  · intro h
    obtain ⟨z,h1,h2,h3⟩ := F.m3 h
    have hne : z ≠ g := fun e => by
      rw [e,hh] at h3
      simp at h3
    exact ⟨z,h1,h2,by refine (Below.heap_setCell _ _ _ _ hne).trans ?_; refine (Below.heap_setCell _ _ _ _ hne).trans ?_; refine (Below.heap_setCell _ _ _ _ hne).trans ?_; refine (Below.heap_setCell _ _ _ _ hne).trans ?_; refine (Below.heap_setCell _ _ _ _ hne).trans ?_; exact h3⟩
  · intro h
    obtain ⟨z,h1,h2,h3⟩ := F.m5 h
    have hne : z ≠ g := fun e => by
      rw [e,hh] at h3
      simp at h3
    exact ⟨z,h1,h2,by refine (Below.heap_setCell _ _ _ _ hne).trans ?_; refine (Below.heap_setCell _ _ _ _ hne).trans ?_; refine (Below.heap_setCell _ _ _ _ hne).trans ?_; refine (Below.heap_setCell _ _ _ _ hne).trans ?_; refine (Below.heap_setCell _ _ _ _ hne).trans ?_; exact h3⟩
  · intro h
    obtain ⟨z,h1,h2,h3⟩ := F.m7 h
    have hne : z ≠ g := fun e => by
      rw [e,hh] at h3
      simp at h3
    exact ⟨z,h1,h2,by refine (Below.heap_setCell _ _ _ _ hne).trans ?_; refine (Below.heap_setCell _ _ _ _ hne).trans ?_; refine (Below.heap_setCell _ _ _ _ hne).trans ?_; refine (Below.heap_setCell _ _ _ _ hne).trans ?_; refine (Below.heap_setCell _ _ _ _ hne).trans ?_; exact h3⟩
  · intro h
    obtain ⟨z,h1,h2,h3⟩ := F.m9 h
    have hne : z ≠ g := fun e => by
      rw [e,hh] at h3
      simp at h3
    exact ⟨z,h1,h2,by refine (Below.heap_setCell _ _ _ _ hne).trans ?_; refine (Below.heap_setCell _ _ _ _ hne).trans ?_; refine (Below.heap_setCell _ _ _ _ hne).trans ?_; refine (Below.heap_setCell _ _ _ _ hne).trans ?_; refine (Below.heap_setCell _ _ _ _ hne).trans ?_; exact h3⟩
  · intro _
    have e : upd d 12 12 = true := rfl
    rw [e]
    exact ⟨g,hx,hg,(heap_setCell_at (k := 4) (heap_setCell_at (k := 3) (heap_setCell_at (k := 2) (heap_setCell_at (k := 1) (heap_setCell_at (k := 0) hh (.int .i64 dw)) x77) x79) x81) x83)⟩
end
noncomputable def tur5C : Code := (Try.f11.body.bind (regionAt 5)).getD .skip
set_option maxRecDepth 100000 in
set_option maxHeartbeats 4000000 in
theorem tur5 {W1 : World} {n : Nat} {dw : Int} {bx bn : Nat} {Q : Exit → Act → World → Prop} (hn16 : n ≤ 16) (hdw : W1.cell? ⟨bx,0,none⟩ = some (.int .i64 dw)) (hnn : W1.cell? ⟨bn,0,none⟩ = some (.int .i64 (n : Int)))
    {s0 s1 s2 s4 s5 s6 s8 s9 s10 s11 s12 s13 s14 s15 s16 s17 s18 s19 s20 s21 s22 s23 s24 s25 s26 s27 s28 s29 s30 s31 s32 s33 s34 s35 s36 s37 s38 s39 s40 s41 s42 s43 s44 s45 s46 s47 s48 s49 s50 s51 s52 s53 s54 s55 s56 s57 s58 s59 s60 s61 s62 s63 s64 s65 s66 s67 s68 s69 s70 s71 s72 s73 s74 s75 s76 s77 s78 s79 s80 s81 s82 s83 s84 s85 s86 s87 s88 s89 s90 s91 s92 s93 s94 s95 s96 s97 s98 s99 s100 s101 s102 s103 s104 s105 s106 s107 s108 s109 s110 s111 s112 s113 s114 s115 s116 s117 s118 s119 s120 s121 s122 s123 s124 s125 s126 s127 s128 s129 s130 s131 s132 s133 s134 s135 s136 s137 s138 s139 s140 s141 s142 s143 s144 s145 s146 s147 s148 s149 s150 s151 s152 s153 s154 s155 s156 s157 s158 s159 s160 s161 s162 s163 s164 s165 s166 s167 s168 s169 s170 s171 s172 s173 s174 s175 s176 s177 s178 s179 s180 s181 s182 s183 s184 s185 s186 s187 s188 s189 s190 s191 s192 s193 s194 s195 s196 s197 s198 s199 s200 s201 s202 s203 s204 s205 s206 s207 s208 s209 s210 s211 s212 s213 s214 s215 s216 s217 s218 s219 s220 s221 s222 s223 s224 s225 s226 s227 s228 s229 s230 s231 s232 s233 s234 s235 s236 s237 s238 s239 s240 s241 s242 s243 s244 s245 s246 s247 s248 s249 s250 s251 s252 s253 s254 s255 s256 s257 s258 s259 s260 s261 s262 s263 s264 s265 s266 s267 s268 s269 s270 s271 s272 s273 s274 s275 s276 s277 s278 s279 s280 s281 s282 s283 s284 s285 s286 s287 s288 s289 s290 s291 s292 s293 s294 s295 s296 s297 s298 s299 s300 s301 s302 s303 s304 s305 s306 s307 s308 s309 s310 s311 s312 s313 s314 s315 s316 s317 s318 s319 s320 s321 s322 s323 s324 s325 s326 s327 s328 s329 s330 s331 s332 s333 s334 s335 s336 s337 s338 s339 s340 s341 s342 s343 s344 s345 s346 s347 s348 s349 s350 s351 s352 s353 s354 s355 s356 s357 s358 s359 s360 s361 s362 s363 s364 s365 s366 s367 s368 s369 s370 s371 s372 s373 s374 s375 s376 s377 s378 s379 s380 s381 s382 s383 s384 s385 s386 s387 s388 s389 s390 s391 s392 s393 s394 s395 s396 s397 s398 s399 s400 s401 s402 s403 s404 s405 s406 s407 : Value} {dd : List Deferred}
    (hQ : ∀ (x74 x75 x76 x77 x78 x79 x80 x81 x82 x83 x84 x9 : Value) (g1 g2 g3 g4 g9 : Nat) (w' : World),Below W1.heap.size W1 w' → W1.heap.size ≤ g1 → W1.heap.size ≤ g2 → W1.heap.size ≤ g3 → W1.heap.size ≤ g4 → W1.heap.size ≤ g9 → g1 ≠ g3 → g1 ≠ g4 → g3 ≠ g4 →
      w'.heap[g1]? = some (.cells (madeCells #[.int .i64 0,.int .i64 0] (n * 2)) 33 (0,0)) → w'.heap[g2]? = some (.cells (madeCells #[.slice none 0 0] n) 22 (0,0)) → w'.heap[g3]? = some (.cells (madeCells #[.int .i64 0,.int .i64 0] (n * 2)) 33 (0,0)) → w'.heap[g4]? = some (.cells (madeCells #[.int .i64 0,.int .i64 0] (n * 2)) 33 (0,0)) →
      w'.heap[g9]? = some (.cells #[.int .i64 dw,.slice (some ⟨g1,0,none⟩) n n,.slice (some ⟨g2,0,none⟩) n n,.slice (some ⟨g3,0,none⟩) n n,.slice (some ⟨g4,0,none⟩) n n] 25 (0,0)) → x9 = .pointer (some ⟨g9,0,none⟩) → Q .normal { tmps := #[s0,s1,s2,.pointer (some ⟨bx,0,none⟩),s4,s5,s6,.pointer (some ⟨bn,0,none⟩),s8,x9,s10,s11,s12,s13,s14,s15,s16,s17,s18,s19,s20,s21,s22,s23,s24,s25,s26,s27,s28,s29,s30,s31,s32,s33,s34,s35,s36,s37,s38,s39,s40,s41,s42,s43,s44,s45,s46,s47,s48,s49,s50,s51,s52,s53,s54,s55,s56,s57,s58,s59,s60,s61,s62,s63,s64,s65,s66,s67,s68,s69,s70,s71,s72,s73,x74,x75,x76,x77,x78,x79,x80,x81,x82,x83,x84,s85,s86,s87,s88,s89,s90,s91,s92,s93,s94,s95,s96,s97,s98,s99,s100,s101,s102,s103,s104,s105,s106,s107,s108,s109,s110,s111,s112,s113,s114,s115,s116,s117,s118,s119,s120,s121,s122,s123,s124,s125,s126,s127,s128,s129,s130,s131,s132,s133,s134,s135,s136,s137,s138,s139,s140,s141,s142,s143,s144,s145,s146,s147,s148,s149,s150,s151,s152,s153,s154,s155,s156,s157,s158,s159,s160,s161,s162,s163,s164,s165,s166,s167,s168,s169,s170,s171,s172,s173,s174,s175,s176,s177,s178,s179,s180,s181,s182,s183,s184,s185,s186,s187,s188,s189,s190,s191,s192,s193,s194,s195,s196,s197,s198,s199,s200,s201,s202,s203,s204,s205,s206,s207,s208,s209,s210,s211,s212,s213,s214,s215,s216,s217,s218,s219,s220,s221,s222,s223,s224,s225,s226,s227,s228,s229,s230,s231,s232,s233,s234,s235,s236,s237,s238,s239,s240,s241,s242,s243,s244,s245,s246,s247,s248,s249,s250,s251,s252,s253,s254,s255,s256,s257,s258,s259,s260,s261,s262,s263,s264,s265,s266,s267,s268,s269,s270,s271,s272,s273,s274,s275,s276,s277,s278,s279,s280,s281,s282,s283,s284,s285,s286,s287,s288,s289,s290,s291,s292,s293,s294,s295,s296,s297,s298,s299,s300,s301,s302,s303,s304,s305,s306,s307,s308,s309,s310,s311,s312,s313,s314,s315,s316,s317,s318,s319,s320,s321,s322,s323,s324,s325,s326,s327,s328,s329,s330,s331,s332,s333,s334,s335,s336,s337,s338,s339,s340,s341,s342,s343,s344,s345,s346,s347,s348,s349,s350,s351,s352,s353,s354,s355,s356,s357,s358,s359,s360,s361,s362,s363,s364,s365,s366,s367,s368,s369,s370,s371,s372,s373,s374,s375,s376,s377,s378,s379,s380,s381,s382,s383,s384,s385,s386,s387,s388,s389,s390,s391,s392,s393,s394,s395,s396,s397,s398,s399,s400,s401,s402,s403,s404,s405,s406,s407],defers := dd } w') :
    Code.wp Try.prog tur5C Q { tmps := #[s0,s1,s2,.pointer (some ⟨bx,0,none⟩),s4,s5,s6,.pointer (some ⟨bn,0,none⟩),s8,s9,s10,s11,s12,s13,s14,s15,s16,s17,s18,s19,s20,s21,s22,s23,s24,s25,s26,s27,s28,s29,s30,s31,s32,s33,s34,s35,s36,s37,s38,s39,s40,s41,s42,s43,s44,s45,s46,s47,s48,s49,s50,s51,s52,s53,s54,s55,s56,s57,s58,s59,s60,s61,s62,s63,s64,s65,s66,s67,s68,s69,s70,s71,s72,s73,s74,s75,s76,s77,s78,s79,s80,s81,s82,s83,s84,s85,s86,s87,s88,s89,s90,s91,s92,s93,s94,s95,s96,s97,s98,s99,s100,s101,s102,s103,s104,s105,s106,s107,s108,s109,s110,s111,s112,s113,s114,s115,s116,s117,s118,s119,s120,s121,s122,s123,s124,s125,s126,s127,s128,s129,s130,s131,s132,s133,s134,s135,s136,s137,s138,s139,s140,s141,s142,s143,s144,s145,s146,s147,s148,s149,s150,s151,s152,s153,s154,s155,s156,s157,s158,s159,s160,s161,s162,s163,s164,s165,s166,s167,s168,s169,s170,s171,s172,s173,s174,s175,s176,s177,s178,s179,s180,s181,s182,s183,s184,s185,s186,s187,s188,s189,s190,s191,s192,s193,s194,s195,s196,s197,s198,s199,s200,s201,s202,s203,s204,s205,s206,s207,s208,s209,s210,s211,s212,s213,s214,s215,s216,s217,s218,s219,s220,s221,s222,s223,s224,s225,s226,s227,s228,s229,s230,s231,s232,s233,s234,s235,s236,s237,s238,s239,s240,s241,s242,s243,s244,s245,s246,s247,s248,s249,s250,s251,s252,s253,s254,s255,s256,s257,s258,s259,s260,s261,s262,s263,s264,s265,s266,s267,s268,s269,s270,s271,s272,s273,s274,s275,s276,s277,s278,s279,s280,s281,s282,s283,s284,s285,s286,s287,s288,s289,s290,s291,s292,s293,s294,s295,s296,s297,s298,s299,s300,s301,s302,s303,s304,s305,s306,s307,s308,s309,s310,s311,s312,s313,s314,s315,s316,s317,s318,s319,s320,s321,s322,s323,s324,s325,s326,s327,s328,s329,s330,s331,s332,s333,s334,s335,s336,s337,s338,s339,s340,s341,s342,s343,s344,s345,s346,s347,s348,s349,s350,s351,s352,s353,s354,s355,s356,s357,s358,s359,s360,s361,s362,s363,s364,s365,s366,s367,s368,s369,s370,s371,s372,s373,s374,s375,s376,s377,s378,s379,s380,s381,s382,s383,s384,s385,s386,s387,s388,s389,s390,s391,s392,s393,s394,s395,s396,s397,s398,s399,s400,s401,s402,s403,s404,s405,s406,s407],defers := dd } W1 := by
  have HQ := Lib.hid hQ
  have HMK := make22 hn16
  have HMW := make23 hn16
  clear hQ
  conv => arg 2; whnf
  refine wp_region_inv' mixed (by kernel_rfl) (fun d_ a_ w' => ∃ x74 x75 x76 x77 x78 x79 x80 x81 x82 x83 x84 x9,a_ = { tmps := #[s0,s1,s2,.pointer (some ⟨bx,0,none⟩),s4,s5,s6,.pointer (some ⟨bn,0,none⟩),s8,x9,s10,s11,s12,s13,s14,s15,s16,s17,s18,s19,s20,s21,s22,s23,s24,s25,s26,s27,s28,s29,s30,s31,s32,s33,s34,s35,s36,s37,s38,s39,s40,s41,s42,s43,s44,s45,s46,s47,s48,s49,s50,s51,s52,s53,s54,s55,s56,s57,s58,s59,s60,s61,s62,s63,s64,s65,s66,s67,s68,s69,s70,s71,s72,s73,x74,x75,x76,x77,x78,x79,x80,x81,x82,x83,x84,s85,s86,s87,s88,s89,s90,s91,s92,s93,s94,s95,s96,s97,s98,s99,s100,s101,s102,s103,s104,s105,s106,s107,s108,s109,s110,s111,s112,s113,s114,s115,s116,s117,s118,s119,s120,s121,s122,s123,s124,s125,s126,s127,s128,s129,s130,s131,s132,s133,s134,s135,s136,s137,s138,s139,s140,s141,s142,s143,s144,s145,s146,s147,s148,s149,s150,s151,s152,s153,s154,s155,s156,s157,s158,s159,s160,s161,s162,s163,s164,s165,s166,s167,s168,s169,s170,s171,s172,s173,s174,s175,s176,s177,s178,s179,s180,s181,s182,s183,s184,s185,s186,s187,s188,s189,s190,s191,s192,s193,s194,s195,s196,s197,s198,s199,s200,s201,s202,s203,s204,s205,s206,s207,s208,s209,s210,s211,s212,s213,s214,s215,s216,s217,s218,s219,s220,s221,s222,s223,s224,s225,s226,s227,s228,s229,s230,s231,s232,s233,s234,s235,s236,s237,s238,s239,s240,s241,s242,s243,s244,s245,s246,s247,s248,s249,s250,s251,s252,s253,s254,s255,s256,s257,s258,s259,s260,s261,s262,s263,s264,s265,s266,s267,s268,s269,s270,s271,s272,s273,s274,s275,s276,s277,s278,s279,s280,s281,s282,s283,s284,s285,s286,s287,s288,s289,s290,s291,s292,s293,s294,s295,s296,s297,s298,s299,s300,s301,s302,s303,s304,s305,s306,s307,s308,s309,s310,s311,s312,s313,s314,s315,s316,s317,s318,s319,s320,s321,s322,s323,s324,s325,s326,s327,s328,s329,s330,s331,s332,s333,s334,s335,s336,s337,s338,s339,s340,s341,s342,s343,s344,s345,s346,s347,s348,s349,s350,s351,s352,s353,s354,s355,s356,s357,s358,s359,s360,s361,s362,s363,s364,s365,s366,s367,s368,s369,s370,s371,s372,s373,s374,s375,s376,s377,s378,s379,s380,s381,s382,s383,s384,s385,s386,s387,s388,s389,s390,s391,s392,s393,s394,s395,s396,s397,s398,s399,s400,s401,s402,s403,s404,s405,s406,s407],defers := dd } ∧ tur5F W1 n dw bx d_ x74 x75 x76 x77 x78 x79 x80 x81 x82 x83 x84 x9 w') ?_ ?_ ?_
  · refine ⟨s74,s75,s76,s77,s78,s79,s80,s81,s82,s83,s84,s9,rfl,(Below.refl _ W1).drew,?_,?_,?_,?_,?_,?_,?_,?_,?_,?_,?_,?_,?_,?_,?_,?_,?_⟩ <;> (intro h; cases h)
  · refine ⟨?_,?_,?_,?_,?_,?_,?_,?_,?_,?_,?_,?_,?_,trivial⟩
    all_goals
      rintro d_ a_ w1 K hd_ hdep ⟨x74,x75,x76,x77,x78,x79,x80,x81,x82,x83,x84,x9,rfl,F⟩ HK
      simp [Region.binds] at hdep
      have hb1 := F.same
    · have HF := Lib.hid F.s0
      clear F hb1
      go_simp
      exact HK.out _ _ ⟨_,_,_,_,_,_,_,_,_,_,_,_,rfl,HF.out⟩
    · obtain rfl := F.f0 (by simp [hdep])
      have c0 := cell_stays hb1 hdw
      have HF := Lib.hid F.s1
      clear F hb1
      go_simp
      exact HK.out _ _ ⟨_,_,_,_,_,_,_,_,_,_,_,_,rfl,HF.out⟩
    · have c0 := cell_stays hb1 hnn
      have HF := Lib.hid F.s2
      clear F hb1
      go_simp
      exact HK.out _ _ ⟨_,_,_,_,_,_,_,_,_,_,_,_,rfl,HF.out⟩
    · obtain rfl := F.f2 (by simp [hdep])
      have HF := Lib.hid (F.s3 hd_)
      clear F hb1
      go_simp
      exact HK.out _ _ ⟨_,_,_,_,_,_,_,_,_,_,_,_,rfl,HF.out⟩
    · have c0 := cell_stays hb1 hnn
      have HF := Lib.hid F.s4
      clear F hb1
      go_simp
      exact HK.out _ _ ⟨_,_,_,_,_,_,_,_,_,_,_,_,rfl,HF.out⟩
    · obtain rfl := F.f4 (by simp [hdep])
      have HF := Lib.hid (F.s5 hd_)
      clear F hb1
      go_simp
      exact HK.out _ _ ⟨_,_,_,_,_,_,_,_,_,_,_,_,rfl,HF.out⟩
    · have c0 := cell_stays hb1 hnn
      have HF := Lib.hid F.s6
      clear F hb1
      go_simp
      exact HK.out _ _ ⟨_,_,_,_,_,_,_,_,_,_,_,_,rfl,HF.out⟩
    · obtain rfl := F.f6 (by simp [hdep])
      have HF := Lib.hid (F.s7 hd_)
      clear F hb1
      go_simp
      exact HK.out _ _ ⟨_,_,_,_,_,_,_,_,_,_,_,_,rfl,HF.out⟩
    · have c0 := cell_stays hb1 hnn
      have HF := Lib.hid F.s8
      clear F hb1
      go_simp
      exact HK.out _ _ ⟨_,_,_,_,_,_,_,_,_,_,_,_,rfl,HF.out⟩
    · obtain rfl := F.f8 (by simp [hdep])
      have HF := Lib.hid (F.s9 hd_)
      clear F hb1
      go_simp
      exact HK.out _ _ ⟨_,_,_,_,_,_,_,_,_,_,_,_,rfl,HF.out⟩
    · have hh1 : d_ 1 = true := by simp [hdep]
      have hh3 : d_ 3 = true := by simp [hdep]
      have hh5 : d_ 5 = true := by simp [hdep]
      have hh7 : d_ 7 = true := by simp [hdep]
      have hh9 : d_ 9 = true := by simp [hdep]
      obtain rfl := F.f1 hh1
      obtain ⟨a3,e3,_,_⟩ := F.m3 hh3
      obtain ⟨a5,e5,_,_⟩ := F.m5 hh5
      obtain ⟨a7,e7,_,_⟩ := F.m7 hh7
      obtain ⟨a9,e9,_,_⟩ := F.m9 hh9
      have HF := Lib.hid (F.s10 hh1 hh3 hh5 hh7 hh9)
      clear F hb1
      subst e3 e5 e7 e9
      go_simp
      exact HK.out _ _ ⟨_,_,_,_,_,_,_,_,_,_,_,_,rfl,HF.out⟩
    · have HF := Lib.hid (F.s11 hd_)
      clear F hb1
      go_simp
      exact HK.out _ _ ⟨_,_,_,_,_,_,_,_,_,_,_,_,rfl,HF.out⟩
    · have hh11 : d_ 11 = true := by simp [hdep]
      have hh10 : d_ 10 = true := by simp [hdep]
      obtain ⟨z1,z3,z5,z7,z9⟩ := F.q10 hh10
      obtain ⟨g,hx,hWb,hh⟩ := F.f11 hh11
      have hds : d_ 12 = false := hd_
      rw [hds] at hh
      have hh' : w1.heap[g]? = some (.cells #[.int .i64 0,.slice none 0 0,.slice none 0 0,.slice none 0 0,.slice none 0 0] 25 (0,0)) := hh
      have zf : ∀ k,w1.frozen? ⟨g,k,none⟩ = false := fun k => frozen_of_heap hh'
      obtain ⟨v0,zc0⟩ : ∃ v,w1.cell? ⟨g,0,none⟩ = some v := ⟨_,by rw [cell_of_heap hh']; rfl⟩
      obtain ⟨v1,zc1⟩ : ∃ v,w1.cell? ⟨g,1,none⟩ = some v := ⟨_,by rw [cell_of_heap hh']; rfl⟩
      obtain ⟨v2,zc2⟩ : ∃ v,w1.cell? ⟨g,2,none⟩ = some v := ⟨_,by rw [cell_of_heap hh']; rfl⟩
      obtain ⟨v3,zc3⟩ : ∃ v,w1.cell? ⟨g,3,none⟩ = some v := ⟨_,by rw [cell_of_heap hh']; rfl⟩
      obtain ⟨v4,zc4⟩ : ∃ v,w1.cell? ⟨g,4,none⟩ = some v := ⟨_,by rw [cell_of_heap hh']; rfl⟩
      obtain ⟨a3,e3,_,_⟩ := F.m3 z3
      obtain ⟨a5,e5,_,_⟩ := F.m5 z5
      obtain ⟨a7,e7,_,_⟩ := F.m7 z7
      obtain ⟨a9,e9,_,_⟩ := F.m9 z9
      have e10 := F.f10 hh10
      have HF := Lib.hid (F.s12 hh10 hh11 hWb hx hh')
      clear F hh hh' hb1
      subst hx e10 e3 e5 e7 e9
      go_simp
      exact HK.out _ _ ⟨_,_,_,_,_,_,_,_,_,_,_,_,rfl,HF.out⟩
  · rintro d_ a_ w1 hall ⟨x74,x75,x76,x77,x78,x79,x80,x81,x82,x83,x84,x9,rfl,F⟩
    have hall' : ∀ k,k < 13 → d_ k = true := hall
    obtain ⟨g1,e1,b1,h1⟩ := F.m3 (hall' 3 (by decide))
    obtain ⟨g2,e2,b2,h2⟩ := F.m5 (hall' 5 (by decide))
    obtain ⟨g3,e3,b3,h3⟩ := F.m7 (hall' 7 (by decide))
    obtain ⟨g4,e4,b4,h4⟩ := F.m9 (hall' 9 (by decide))
    obtain ⟨g9,e9,b9,h9⟩ := F.f11 (hall' 11 (by decide))
    rw [hall' 12 (by decide)] at h9
    have n1 := F.n3_7 (hall' 3 (by decide)) (hall' 7 (by decide))
    have n2 := F.n3_9 (hall' 3 (by decide)) (hall' 9 (by decide))
    have n3 := F.n7_9 (hall' 7 (by decide)) (hall' 9 (by decide))
    rw [if_pos rfl] at h9
    rw [e1,e2,e3,e4] at h9
    exact HQ.out _ _ _ _ _ _ _ _ _ _ _ _ g1 g2 g3 g4 g9 w1 F.same b1 b2 b3 b4 b9 (fun e => n1 (by rw [e1,e3,e])) (fun e => n2 (by rw [e1,e4,e])) (fun e => n3 (by rw [e3,e4,e])) h1 h2 h3 h4 h9 e9
end Go.Proofs.Ytphefhpmbahagaa
