/- The document's views: what the functions answer. The drawn region of alive. The document's views: all is so. -/
import Derived.Test.YtphefhpmbahagaaT46
import Derived.Test.YtphefhpmbahagaaT44
import Derived.Test.YtphefhpmbahagaaT32
import Derived.Test.YtphefhpmbahagaaT18
namespace Go.Proofs.Ytphefhpmbahagaa
open Go.RowKit
set_option linter.unusedVariables false
set_option linter.unusedSimpArgs false

theorem ex_walked : walkedE smpT [1,2,0] = (0,0) := by decide +kernel
theorem ex_walked2 : walkedE smpT [1,0,2] = (2,0) := by decide +kernel
theorem ex_times : timesE smpT [0,1,2] = ([⟨420,420⟩,⟨445,455⟩,⟨500,510⟩],⟨505,520⟩,0) := by decide +kernel
theorem ex_late : lateE smpT [1,2,0] = (0,true,0) := by decide +kernel
theorem ex_late2 : (lateE smpT [0,1,2]).2.2 = 4 := by decide +kernel
theorem ex_tours : toursE smpT = (3,3,0) := by decide +kernel
theorem ex_short : shortE smpT = ([1,0,2],0) := by decide +kernel
theorem ex_most : mostE smpT = ([1,0,2],0) := by decide +kernel
theorem ex_before : beforeE smpT 1 0 = (1,0) := by decide +kernel
theorem ex_before2 : beforeE smpT 0 2 = (2,0) := by decide +kernel
theorem ex_later : laterE smpT [1,0,2] = (55,0) := by decide +kernel
theorem ints_three {w : World} {g : Nat} {a b c : Int} (h : w.heap[g]? = some (.cells #[.int .i64 a,.int .i64 b,.int .i64 c] 3 (0,0))) : IsInts w (some ⟨g,0,none⟩) [a,b,c] := fun i hi => by
  have : i = 0 ∨ i = 1 ∨ i = 2 := by simp at hi; omega
  rcases this with rfl | rfl | rfl
  all_goals exact ⟨g,0,rfl,by rw [cell_of_heap h]; rfl⟩
theorem s_walked {w : World} {A : TrA} (h : IsTr w smpT A) {g : Nat} (hg : w.heap[g]? = some (.cells #[.int .i64 1,.int .i64 2,.int .i64 0] 3 (0,0))) : Calls Try.prog 14 #[smpT.v A,.slice (some ⟨g,0,none⟩) 3 3] w fun e w' => e = .returned (.tuple #[.int .i64 0,.int .i64 0]) ∧ Below w.heap.size w w' := by
  have := walked14 (cap := 3) h smp_small (o := [1,2,0]) (by decide) (ints_three hg)
  rw [ex_walked] at this
  exact this
theorem s_walked2 {w : World} {A : TrA} (h : IsTr w smpT A) {g : Nat} (hg : w.heap[g]? = some (.cells #[.int .i64 1,.int .i64 0,.int .i64 2] 3 (0,0))) : Calls Try.prog 14 #[smpT.v A,.slice (some ⟨g,0,none⟩) 3 3] w fun e w' => e = .returned (.tuple #[.int .i64 2,.int .i64 0]) ∧ Below w.heap.size w w' := by
  have := walked14 (cap := 3) h smp_small (o := [1,0,2]) (by decide) (ints_three hg)
  rw [ex_walked2] at this
  exact this
theorem s_times {w : World} {A : TrA} (h : IsTr w smpT A) {g : Nat} (hg : w.heap[g]? = some (.cells #[.int .i64 0,.int .i64 1,.int .i64 2] 3 (0,0))) : Calls Try.prog 16 #[smpT.v A,.slice (some ⟨g,0,none⟩) 3 3] w fun e w' => ∃ av cv,e = .returned (.tuple #[.slice av 3 cv,.agg #[.int .i64 505,.int .i64 520],.int .i64 0]) ∧ IsSpns w' av [⟨420,420⟩,⟨445,455⟩,⟨500,510⟩] ∧ Below w.heap.size w w' := by
  have := times16 (cap := 3) h smp_small (o := [0,1,2]) (by decide) (ints_three hg)
  rw [ex_times] at this
  exact this
theorem s_late {w : World} {A : TrA} (h : IsTr w smpT A) {g : Nat} (hg : w.heap[g]? = some (.cells #[.int .i64 1,.int .i64 2,.int .i64 0] 3 (0,0))) : Calls Try.prog 18 #[smpT.v A,.slice (some ⟨g,0,none⟩) 3 3] w fun e w' => e = .returned (.tuple #[.int .i64 0,.bool true,.int .i64 0]) ∧ Below w.heap.size w w' := by
  have := late18 (cap := 3) h smp_small (o := [1,2,0]) (by decide) (ints_three hg)
  rw [ex_late] at this
  exact this
theorem s_late2 {w : World} {A : TrA} (h : IsTr w smpT A) {g : Nat} (hg : w.heap[g]? = some (.cells #[.int .i64 0,.int .i64 1,.int .i64 2] 3 (0,0))) : Calls Try.prog 18 #[smpT.v A,.slice (some ⟨g,0,none⟩) 3 3] w fun e w' => ∃ (x : Int) (b : Bool),e = .returned (.tuple #[.int .i64 x,.bool b,.int .i64 4]) ∧ Below w.heap.size w w' := by
  have := late18 (cap := 3) h smp_small (o := [0,1,2]) (by decide) (ints_three hg)
  rw [ex_late2] at this
  exact this.mono fun e w' he => ⟨_,_,he⟩
theorem s_tours {w : World} {A : TrA} (h : IsTr w smpT A) : Calls Try.prog 23 #[smpT.v A] w fun e w' => e = .returned (.tuple #[.int .i64 3,.int .i64 3,.int .i64 0]) ∧ Below w.heap.size w w' := by
  have := tours23 h smp_small
  rw [ex_tours] at this
  exact this
theorem s_ord {w : World} {A : TrA} {f : Nat} {r : List Int × Int} (hr : r = ([1,0,2],0)) (hc : Calls Try.prog f #[smpT.v A] w fun e w' => OrdRet w w' e r) : Calls Try.prog f #[smpT.v A] w fun e w' => ∃ av cv,e = .returned (.tuple #[.slice av 3 cv,.int .i64 0]) ∧ IsInts w' av [1,0,2] ∧ Below w.heap.size w w' := by
  subst hr
  refine hc.mono ?_
  rintro e w' ⟨⟨o,ov,a,c⟩,rfl,ho,hat,hb⟩
  have ho : o = [1,0,2] := ho
  subst ho
  exact ⟨a,c,rfl,hat.ints,hb⟩
theorem s_short {w : World} {A : TrA} (h : IsTr w smpT A) : Calls Try.prog 25 #[smpT.v A] w fun e w' => ∃ av cv,e = .returned (.tuple #[.slice av 3 cv,.int .i64 0]) ∧ IsInts w' av [1,0,2] ∧ Below w.heap.size w w' := s_ord ex_short (shortest25 h smp_small)
theorem s_most {w : World} {A : TrA} (h : IsTr w smpT A) : Calls Try.prog 27 #[smpT.v A] w fun e w' => ∃ av cv,e = .returned (.tuple #[.slice av 3 cv,.int .i64 0]) ∧ IsInts w' av [1,0,2] ∧ Below w.heap.size w w' := s_ord ex_most (most27 h smp_small)
theorem s_before {w : World} {A : TrA} (h : IsTr w smpT A) : Calls Try.prog 29 #[smpT.v A,.int .i64 1,.int .i64 0] w fun e w' => e = .returned (.tuple #[.int .i64 1,.int .i64 0]) ∧ Below w.heap.size w w' := by
  have := before29 h smp_small 1 0
  rw [ex_before] at this
  exact this
theorem s_before2 {w : World} {A : TrA} (h : IsTr w smpT A) : Calls Try.prog 29 #[smpT.v A,.int .i64 0,.int .i64 2] w fun e w' => e = .returned (.tuple #[.int .i64 2,.int .i64 0]) ∧ Below w.heap.size w w' := by
  have := before29 h smp_small 0 2
  rw [ex_before2] at this
  exact this
theorem s_later {w : World} {A : TrA} (h : IsTr w smpT A) {g : Nat} (hg : w.heap[g]? = some (.cells #[.int .i64 1,.int .i64 0,.int .i64 2] 3 (0,0))) : Calls Try.prog 20 #[smpT.v A,.slice (some ⟨g,0,none⟩) 3 3] w fun e w' => e = .returned (.tuple #[.int .i64 55,.int .i64 0]) ∧ Below w.heap.size w w' := by
  have := later20 (cap := 3) h smp_small (o := [1,0,2]) (by decide) (ints_three hg)
  rw [ex_later] at this
  exact this
end Go.Proofs.Ytphefhpmbahagaa

namespace Go.Proofs.Ytphefhpmbahagaa
open Go.RowKit
set_option linter.unusedVariables false
set_option linter.unusedSimpArgs false

structure alive9F (av : Option Addr) (cv : Nat) (pb : Nat) (S0 : World → Prop) (S1 : Unit → World → Prop) (S2 : Unit → Unit → World → Prop) (S3 : Unit → Unit → Unit → World → Prop) (S4 : Unit → Unit → Unit → Value → World → Prop) (S5 : Unit → Unit → Unit → Value → Unit → World → Prop) (S6 : Unit → Unit → Unit → Value → Unit → Unit → World → Prop) (d : Nat → Bool) (x67 x68 x69 x70 x71 x72 x73 x74 x75 x76 x77 x78 x79 x80 x81 x82 x83 x84 x85 x86 x87 x88 x89 x90 x91 x92 x93 x94 x95 x96 x97 x98 x99 x100 x101 x102 x103 x104 x105 x106 x107 x108 x109 x110 x111 x112 x113 x114 : Value) (ua : Unit) (ub : Unit) (uc : Unit) (ud : Unit) (ue : Unit) (w : World) : Prop where
  q1 : d 1 = true → d 0 = true
  q2 : d 2 = true → d 1 = true
  q3 : d 3 = true → d 2 = true
  q4 : d 4 = true → d 2 = true ∧ d 3 = true
  q5 : d 5 = true → d 2 = true ∧ d 4 = true
  q6 : d 6 = true → d 2 = true ∧ d 5 = true
  q7 : d 7 = true → d 6 = true
  q8 : d 8 = true → d 6 = true
  q9 : d 9 = true → d 6 = true ∧ d 8 = true
  q10 : d 10 = true → d 6 = true ∧ d 9 = true
  q11 : d 11 = true → d 6 = true ∧ d 8 = true ∧ d 9 = true ∧ d 10 = true
  q12 : d 12 = true → d 6 = true ∧ d 7 = true ∧ d 10 = true ∧ d 11 = true
  q13 : d 13 = true → d 6 = true ∧ d 12 = true
  q14 : d 14 = true → d 6 = true ∧ d 13 = true
  q15 : d 15 = true → d 12 = true ∧ d 14 = true
  q16 : d 16 = true → d 15 = true
  q17 : d 17 = true → d 15 = true
  q18 : d 18 = true → d 15 = true ∧ d 16 = true ∧ d 17 = true
  q19 : d 19 = true → d 15 = true ∧ d 18 = true
  q20 : d 20 = true → d 17 = true ∧ d 19 = true
  q21 : d 21 = true → d 20 = true
  q22 : d 22 = true → d 20 = true ∧ d 21 = true
  q23 : d 23 = true → d 20 = true ∧ d 22 = true
  q24 : d 24 = true → d 20 = true ∧ d 23 = true
  q25 : d 25 = true → d 24 = true
  q26 : d 26 = true → d 24 = true ∧ d 25 = true
  q27 : d 27 = true → d 24 = true ∧ d 26 = true
  q28 : d 28 = true → d 24 = true ∧ d 27 = true
  q29 : d 29 = true → d 28 = true
  q30 : d 30 = true → d 28 = true ∧ d 29 = true
  q31 : d 31 = true → d 28 = true ∧ d 30 = true
  q32 : d 32 = true → d 28 = true ∧ d 31 = true
  q33 : d 33 = true → d 32 = true
  q34 : d 34 = true → d 32 = true ∧ d 33 = true
  q35 : d 35 = true → d 32 = true ∧ d 34 = true
  q36 : d 36 = true → d 32 = true ∧ d 35 = true
  q37 : d 37 = true → d 36 = true
  q38 : d 38 = true → d 36 = true ∧ d 37 = true
  q39 : d 39 = true → d 36 = true ∧ d 38 = true
  q40 : d 40 = true → d 36 = true ∧ d 39 = true
  q41 : d 41 = true → d 40 = true
  q42 : d 42 = true → d 40 = true ∧ d 41 = true
  q43 : d 43 = true → d 40 = true ∧ d 42 = true
  q44 : d 44 = true → d 40 = true ∧ d 43 = true
  q45 : d 45 = true → d 44 = true
  q46 : d 46 = true → d 44 = true ∧ d 45 = true
  q47 : d 47 = true → d 44 = true ∧ d 46 = true
  f0 : d 0 = true → x67 = .int .i64 0
  f1 : d 1 = true → x68 = .bool false
  f2 : d 2 = true → x69 = .bool false
  f3 : d 3 = true → x70 = .int .i64 0
  f4 : d 4 = true → x71 = .bool false
  f5 : d 5 = true → x72 = .bool false
  f6 : d 6 = true → x73 = .bool false
  f7 : d 7 = true → x74 = .slice av 3 cv
  f8 : d 8 = true → x75 = .agg #[.int .i64 420,.int .i64 420]
  f9 : d 9 = true → x76 = .agg #[.int .i64 445,.int .i64 455]
  f10 : d 10 = true → x77 = .agg #[.int .i64 500,.int .i64 510]
  f12 : d 12 = true → x79 = .bool true
  f13 : d 13 = true → x80 = .bool false
  f14 : d 14 = true → x81 = .bool false
  f15 : d 15 = true → x82 = .bool false
  f16 : d 16 = true → x83 = .agg #[.int .i64 505,.int .i64 520]
  f17 : d 17 = true → x84 = .agg #[.int .i64 505,.int .i64 520]
  f18 : d 18 = true → x85 = .bool false
  f19 : d 19 = true → x86 = .bool false
  f20 : d 20 = true → x87 = .bool false
  f21 : d 21 = true → x88 = .int .i64 0
  f22 : d 22 = true → x89 = .bool false
  f23 : d 23 = true → x90 = .bool false
  f24 : d 24 = true → x91 = .bool false
  f25 : d 25 = true → x92 = .int .i64 0
  f26 : d 26 = true → x93 = .bool false
  f27 : d 27 = true → x94 = .bool false
  f28 : d 28 = true → x95 = .bool false
  f29 : d 29 = true → x96 = .bool true
  f30 : d 30 = true → x97 = .bool false
  f31 : d 31 = true → x98 = .bool false
  f32 : d 32 = true → x99 = .bool false
  f33 : d 33 = true → x100 = .int .i64 0
  f34 : d 34 = true → x101 = .bool false
  f35 : d 35 = true → x102 = .bool false
  f36 : d 36 = true → x103 = .bool false
  f37 : d 37 = true → x104 = .int .i64 3
  f38 : d 38 = true → x105 = .bool false
  f39 : d 39 = true → x106 = .bool false
  f40 : d 40 = true → x107 = .bool false
  f41 : d 41 = true → x108 = .int .i64 3
  f42 : d 42 = true → x109 = .bool false
  f43 : d 43 = true → x110 = .bool false
  f44 : d 44 = true → x111 = .bool false
  f45 : d 45 = true → x112 = .int .i64 0
  f46 : d 46 = true → x113 = .bool false
  f47 : d 47 = true → x114 = .bool false
  st0 : d 8 = false → S0 w
  st1 : d 8 = true → d 9 = false → S1 ua w
  st2 : d 9 = true → d 10 = false → S2 ua ub w
  st3 : d 10 = true → d 11 = false → S3 ua ub uc w
  st4 : d 11 = true → d 12 = false → S4 ua ub uc x78 w
  st5 : d 12 = true → d 17 = false → S5 ua ub uc x78 ud w
  st6 : d 17 = true → S6 ua ub uc x78 ud ue w
structure alive9X where
  x67 : Value
  x68 : Value
  x69 : Value
  x70 : Value
  x71 : Value
  x72 : Value
  x73 : Value
  x74 : Value
  x75 : Value
  x76 : Value
  x77 : Value
  x78 : Value
  x79 : Value
  x80 : Value
  x81 : Value
  x82 : Value
  x83 : Value
  x84 : Value
  x85 : Value
  x86 : Value
  x87 : Value
  x88 : Value
  x89 : Value
  x90 : Value
  x91 : Value
  x92 : Value
  x93 : Value
  x94 : Value
  x95 : Value
  x96 : Value
  x97 : Value
  x98 : Value
  x99 : Value
  x100 : Value
  x101 : Value
  x102 : Value
  x103 : Value
  x104 : Value
  x105 : Value
  x106 : Value
  x107 : Value
  x108 : Value
  x109 : Value
  x110 : Value
  x111 : Value
  x112 : Value
  x113 : Value
  x114 : Value
  ua : Unit
  ub : Unit
  uc : Unit
  ud : Unit
  ue : Unit
noncomputable def alive9C : Code := (Try.f13.body.bind (regionAt 9)).getD .skip
set_option maxRecDepth 100000 in
set_option maxHeartbeats 4000000 in
theorem alive9 {av : Option Addr} {cv : Nat} {pb : Nat} {S0 : World → Prop} {S1 : Unit → World → Prop} {S2 : Unit → Unit → World → Prop} {S3 : Unit → Unit → Unit → World → Prop} {S4 : Unit → Unit → Unit → Value → World → Prop} {S5 : Unit → Unit → Unit → Value → Unit → World → Prop} {S6 : Unit → Unit → Unit → Value → Unit → Unit → World → Prop} {Q : Exit → Act → World → Prop} {W1 : World} (h0 : S0 W1.drew)
    (kc8 : Hid (∀ (w : World),S0 w → Calls Try.prog 41 #[.int .i64 420,.int .i64 420] w fun e w' => ∃ ua : Unit,e = .returned (.agg #[.int .i64 420,.int .i64 420]) ∧ S1 ua w'))
    (kc9 : Hid (∀ (ua : Unit) (w : World),S1 ua w → Calls Try.prog 41 #[.int .i64 445,.int .i64 455] w fun e w' => ∃ ub : Unit,e = .returned (.agg #[.int .i64 445,.int .i64 455]) ∧ S2 ua ub w'))
    (kc10 : Hid (∀ (ua : Unit) (ub : Unit) (w : World),S2 ua ub w → Calls Try.prog 41 #[.int .i64 500,.int .i64 510] w fun e w' => ∃ uc : Unit,e = .returned (.agg #[.int .i64 500,.int .i64 510]) ∧ S3 ua ub uc w'))
    (kc11 : Hid (∀ (ua : Unit) (ub : Unit) (uc : Unit) (w : World),S3 ua ub uc w → S4 ua ub uc (.slice (some ⟨w.heap.size,0,none⟩) 3 3) (w.alloc (.cells #[.int .i64 420,.int .i64 420,.int .i64 445,.int .i64 455,.int .i64 500,.int .i64 510] 33))))
    (kc12 : Hid (∀ (ua : Unit) (ub : Unit) (uc : Unit) (x78 : Value) (w : World),S4 ua ub uc x78 w → Calls Try.prog 22 #[.slice av 3 cv,x78] w fun e w' => ∃ ud : Unit,e = .returned (.bool true) ∧ S5 ua ub uc x78 ud w'))
    (kl16 : Hid (∀ (ua : Unit) (ub : Unit) (uc : Unit) (x78 : Value) (ud : Unit) (ue : Unit) (w : World),(S5 ua ub uc x78 ud w ∨ S6 ua ub uc x78 ud ue w) → w.cell? ⟨pb,0,none⟩ = some (.int .i64 505) ∧ w.cell? ⟨pb,1,none⟩ = some (.int .i64 520)))
    (kc17 : Hid (∀ (ua : Unit) (ub : Unit) (uc : Unit) (x78 : Value) (ud : Unit) (w : World),S5 ua ub uc x78 ud w → Calls Try.prog 41 #[.int .i64 505,.int .i64 520] w fun e w' => ∃ ue : Unit,e = .returned (.agg #[.int .i64 505,.int .i64 520]) ∧ S6 ua ub uc x78 ud ue w'))
    {s0 s12 s13 s14 s15 s16 s17 s18 s19 s20 s21 s22 s23 s24 s25 s26 s27 s28 s29 s30 s31 s32 s33 s34 s35 s36 s37 s38 s39 s40 s41 s42 s43 s44 s45 s46 s47 s48 s49 s50 s51 s52 s53 s54 s55 s56 s57 s58 s59 s60 s61 s62 s63 s64 s65 s66 s67 s68 s69 s70 s71 s72 s73 s74 s75 s76 s77 s78 s79 s80 s81 s82 s83 s84 s85 s86 s87 s88 s89 s90 s91 s92 s93 s94 s95 s96 s97 s98 s99 s100 s101 s102 s103 s104 s105 s106 s107 s108 s109 s110 s111 s112 s113 s114 s115 s116 s117 s118 s119 s120 s121 s122 s123 s124 s125 s126 s127 s128 s129 s130 s131 s132 s133 s134 s135 s136 s137 s138 s139 s140 s141 s142 s143 s144 s145 s146 : Value} {dd : List Deferred}
    (hQ : ∀ (ua : Unit) (ub : Unit) (uc : Unit) (x78 : Value) (ud : Unit) (ue : Unit) (w' : World),S6 ua ub uc x78 ud ue w' → Q .normal { tmps := #[s0,.int .i64 0,.int .i64 0,.slice av 3 cv,.pointer (some ⟨pb,0,none⟩),.int .i64 0,.int .i64 0,.bool true,.int .i64 0,.int .i64 3,.int .i64 3,.int .i64 0,s12,s13,s14,s15,s16,s17,s18,s19,s20,s21,s22,s23,s24,s25,s26,s27,s28,s29,s30,s31,s32,s33,s34,s35,s36,s37,s38,s39,s40,s41,s42,s43,s44,s45,s46,s47,s48,s49,s50,s51,s52,s53,s54,s55,s56,s57,s58,s59,s60,s61,s62,s63,s64,s65,s66,.int .i64 0,.bool false,.bool false,.int .i64 0,.bool false,.bool false,.bool false,.slice av 3 cv,.agg #[.int .i64 420,.int .i64 420],.agg #[.int .i64 445,.int .i64 455],.agg #[.int .i64 500,.int .i64 510],x78,.bool true,.bool false,.bool false,.bool false,.agg #[.int .i64 505,.int .i64 520],.agg #[.int .i64 505,.int .i64 520],.bool false,.bool false,.bool false,.int .i64 0,.bool false,.bool false,.bool false,.int .i64 0,.bool false,.bool false,.bool false,.bool true,.bool false,.bool false,.bool false,.int .i64 0,.bool false,.bool false,.bool false,.int .i64 3,.bool false,.bool false,.bool false,.int .i64 3,.bool false,.bool false,.bool false,.int .i64 0,.bool false,.bool false,s115,s116,s117,s118,s119,s120,s121,s122,s123,s124,s125,s126,s127,s128,s129,s130,s131,s132,s133,s134,s135,s136,s137,s138,s139,s140,s141,s142,s143,s144,s145,s146],defers := dd } w') :
    Code.wpIn (wideAt none) 0 Try.prog alive9C Q { tmps := #[s0,.int .i64 0,.int .i64 0,.slice av 3 cv,.pointer (some ⟨pb,0,none⟩),.int .i64 0,.int .i64 0,.bool true,.int .i64 0,.int .i64 3,.int .i64 3,.int .i64 0,s12,s13,s14,s15,s16,s17,s18,s19,s20,s21,s22,s23,s24,s25,s26,s27,s28,s29,s30,s31,s32,s33,s34,s35,s36,s37,s38,s39,s40,s41,s42,s43,s44,s45,s46,s47,s48,s49,s50,s51,s52,s53,s54,s55,s56,s57,s58,s59,s60,s61,s62,s63,s64,s65,s66,s67,s68,s69,s70,s71,s72,s73,s74,s75,s76,s77,s78,s79,s80,s81,s82,s83,s84,s85,s86,s87,s88,s89,s90,s91,s92,s93,s94,s95,s96,s97,s98,s99,s100,s101,s102,s103,s104,s105,s106,s107,s108,s109,s110,s111,s112,s113,s114,s115,s116,s117,s118,s119,s120,s121,s122,s123,s124,s125,s126,s127,s128,s129,s130,s131,s132,s133,s134,s135,s136,s137,s138,s139,s140,s141,s142,s143,s144,s145,s146],defers := dd } W1 := by
  have HQ := Lib.hid hQ
  clear hQ
  conv => arg 4; whnf
  refine wpIn_region_invG mixed (by kernel_rfl) (fun d_ a_ w' => ∃ y_ : alive9X,a_ = { tmps := #[s0,.int .i64 0,.int .i64 0,.slice av 3 cv,.pointer (some ⟨pb,0,none⟩),.int .i64 0,.int .i64 0,.bool true,.int .i64 0,.int .i64 3,.int .i64 3,.int .i64 0,s12,s13,s14,s15,s16,s17,s18,s19,s20,s21,s22,s23,s24,s25,s26,s27,s28,s29,s30,s31,s32,s33,s34,s35,s36,s37,s38,s39,s40,s41,s42,s43,s44,s45,s46,s47,s48,s49,s50,s51,s52,s53,s54,s55,s56,s57,s58,s59,s60,s61,s62,s63,s64,s65,s66,y_.x67,y_.x68,y_.x69,y_.x70,y_.x71,y_.x72,y_.x73,y_.x74,y_.x75,y_.x76,y_.x77,y_.x78,y_.x79,y_.x80,y_.x81,y_.x82,y_.x83,y_.x84,y_.x85,y_.x86,y_.x87,y_.x88,y_.x89,y_.x90,y_.x91,y_.x92,y_.x93,y_.x94,y_.x95,y_.x96,y_.x97,y_.x98,y_.x99,y_.x100,y_.x101,y_.x102,y_.x103,y_.x104,y_.x105,y_.x106,y_.x107,y_.x108,y_.x109,y_.x110,y_.x111,y_.x112,y_.x113,y_.x114,s115,s116,s117,s118,s119,s120,s121,s122,s123,s124,s125,s126,s127,s128,s129,s130,s131,s132,s133,s134,s135,s136,s137,s138,s139,s140,s141,s142,s143,s144,s145,s146],defers := dd } ∧ alive9F av cv pb S0 S1 S2 S3 S4 S5 S6 d_ y_.x67 y_.x68 y_.x69 y_.x70 y_.x71 y_.x72 y_.x73 y_.x74 y_.x75 y_.x76 y_.x77 y_.x78 y_.x79 y_.x80 y_.x81 y_.x82 y_.x83 y_.x84 y_.x85 y_.x86 y_.x87 y_.x88 y_.x89 y_.x90 y_.x91 y_.x92 y_.x93 y_.x94 y_.x95 y_.x96 y_.x97 y_.x98 y_.x99 y_.x100 y_.x101 y_.x102 y_.x103 y_.x104 y_.x105 y_.x106 y_.x107 y_.x108 y_.x109 y_.x110 y_.x111 y_.x112 y_.x113 y_.x114 y_.ua y_.ub y_.uc y_.ud y_.ue w') ?_ ?_ ?_
  · refine ⟨⟨s67,s68,s69,s70,s71,s72,s73,s74,s75,s76,s77,s78,s79,s80,s81,s82,s83,s84,s85,s86,s87,s88,s89,s90,s91,s92,s93,s94,s95,s96,s97,s98,s99,s100,s101,s102,s103,s104,s105,s106,s107,s108,s109,s110,s111,s112,s113,s114,default,default,default,default,default⟩,rfl,?_⟩
    constructor <;> first | rfl | (intro _; rfl) | (intro h; cases h; done) | (intro _; exact h0) | exact h0
  · refine ⟨?_,?_,?_,?_,?_,?_,?_,?_,?_,?_,?_,?_,?_,?_,?_,?_,?_,?_,?_,?_,?_,?_,?_,?_,?_,?_,?_,?_,?_,?_,?_,?_,?_,?_,?_,?_,?_,?_,?_,?_,?_,?_,?_,?_,?_,?_,?_,?_,trivial⟩
    all_goals
      rintro d_ a_ w1 K hd_ hdep ⟨⟨x67,x68,x69,x70,x71,x72,x73,x74,x75,x76,x77,x78,x79,x80,x81,x82,x83,x84,x85,x86,x87,x88,x89,x90,x91,x92,x93,x94,x95,x96,x97,x98,x99,x100,x101,x102,x103,x104,x105,x106,x107,x108,x109,x110,x111,x112,x113,x114,ua,ub,uc,ud,ue⟩,rfl,F⟩ HK
      dsimp only at F ⊢
      simp [Region.binds] at hdep
    · have HF : Hid (alive9F av cv pb S0 S1 S2 S3 S4 S5 S6 (upd d_ 0) (.int .i64 0) x68 x69 x70 x71 x72 x73 x74 x75 x76 x77 x78 x79 x80 x81 x82 x83 x84 x85 x86 x87 x88 x89 x90 x91 x92 x93 x94 x95 x96 x97 x98 x99 x100 x101 x102 x103 x104 x105 x106 x107 x108 x109 x110 x111 x112 x113 x114 ua ub uc ud ue w1) := ⟨fun h => rfl,F.q2,F.q3,F.q4,F.q5,F.q6,F.q7,F.q8,F.q9,F.q10,F.q11,F.q12,F.q13,F.q14,F.q15,F.q16,F.q17,F.q18,F.q19,F.q20,F.q21,F.q22,F.q23,F.q24,F.q25,F.q26,F.q27,F.q28,F.q29,F.q30,F.q31,F.q32,F.q33,F.q34,F.q35,F.q36,F.q37,F.q38,F.q39,F.q40,F.q41,F.q42,F.q43,F.q44,F.q45,F.q46,F.q47,fun _ => rfl,F.f1,F.f2,F.f3,F.f4,F.f5,F.f6,F.f7,F.f8,F.f9,F.f10,F.f12,F.f13,F.f14,F.f15,F.f16,F.f17,F.f18,F.f19,F.f20,F.f21,F.f22,F.f23,F.f24,F.f25,F.f26,F.f27,F.f28,F.f29,F.f30,F.f31,F.f32,F.f33,F.f34,F.f35,F.f36,F.f37,F.f38,F.f39,F.f40,F.f41,F.f42,F.f43,F.f44,F.f45,F.f46,F.f47,F.st0,F.st1,F.st2,F.st3,F.st4,F.st5,F.st6⟩
      clear F
      go_simp
      exact HK.out _ _ ⟨⟨_,_,_,_,_,_,_,_,_,_,_,_,_,_,_,_,_,_,_,_,_,_,_,_,_,_,_,_,_,_,_,_,_,_,_,_,_,_,_,_,_,_,_,_,_,_,_,_,_,_,_,_,_⟩,rfl,HF.out⟩
    · obtain rfl := F.f0 (by simp [hdep])
      have HF : Hid (alive9F av cv pb S0 S1 S2 S3 S4 S5 S6 (upd d_ 1) (.int .i64 0) (.bool false) x69 x70 x71 x72 x73 x74 x75 x76 x77 x78 x79 x80 x81 x82 x83 x84 x85 x86 x87 x88 x89 x90 x91 x92 x93 x94 x95 x96 x97 x98 x99 x100 x101 x102 x103 x104 x105 x106 x107 x108 x109 x110 x111 x112 x113 x114 ua ub uc ud ue w1) := ⟨fun _ => (show _ from (by simp [hdep] : d_ 0 = true)),fun h => rfl,F.q3,F.q4,F.q5,F.q6,F.q7,F.q8,F.q9,F.q10,F.q11,F.q12,F.q13,F.q14,F.q15,F.q16,F.q17,F.q18,F.q19,F.q20,F.q21,F.q22,F.q23,F.q24,F.q25,F.q26,F.q27,F.q28,F.q29,F.q30,F.q31,F.q32,F.q33,F.q34,F.q35,F.q36,F.q37,F.q38,F.q39,F.q40,F.q41,F.q42,F.q43,F.q44,F.q45,F.q46,F.q47,F.f0,fun _ => rfl,F.f2,F.f3,F.f4,F.f5,F.f6,F.f7,F.f8,F.f9,F.f10,F.f12,F.f13,F.f14,F.f15,F.f16,F.f17,F.f18,F.f19,F.f20,F.f21,F.f22,F.f23,F.f24,F.f25,F.f26,F.f27,F.f28,F.f29,F.f30,F.f31,F.f32,F.f33,F.f34,F.f35,F.f36,F.f37,F.f38,F.f39,F.f40,F.f41,F.f42,F.f43,F.f44,F.f45,F.f46,F.f47,F.st0,F.st1,F.st2,F.st3,F.st4,F.st5,F.st6⟩
      clear F
      go_simp
      exact HK.out _ _ ⟨⟨_,_,_,_,_,_,_,_,_,_,_,_,_,_,_,_,_,_,_,_,_,_,_,_,_,_,_,_,_,_,_,_,_,_,_,_,_,_,_,_,_,_,_,_,_,_,_,_,_,_,_,_,_⟩,rfl,HF.out⟩
    · obtain rfl := F.f1 (by simp [hdep])
      have HF : Hid (alive9F av cv pb S0 S1 S2 S3 S4 S5 S6 (upd d_ 2) x67 (.bool false) (.bool false) x70 x71 x72 x73 x74 x75 x76 x77 x78 x79 x80 x81 x82 x83 x84 x85 x86 x87 x88 x89 x90 x91 x92 x93 x94 x95 x96 x97 x98 x99 x100 x101 x102 x103 x104 x105 x106 x107 x108 x109 x110 x111 x112 x113 x114 ua ub uc ud ue w1) := ⟨F.q1,fun _ => (show _ from (by simp [hdep] : d_ 1 = true)),fun h => rfl,fun h => ⟨rfl,(F.q4 h).2⟩,fun h => ⟨rfl,(F.q5 h).2⟩,fun h => ⟨rfl,(F.q6 h).2⟩,F.q7,F.q8,F.q9,F.q10,F.q11,F.q12,F.q13,F.q14,F.q15,F.q16,F.q17,F.q18,F.q19,F.q20,F.q21,F.q22,F.q23,F.q24,F.q25,F.q26,F.q27,F.q28,F.q29,F.q30,F.q31,F.q32,F.q33,F.q34,F.q35,F.q36,F.q37,F.q38,F.q39,F.q40,F.q41,F.q42,F.q43,F.q44,F.q45,F.q46,F.q47,F.f0,F.f1,fun _ => rfl,F.f3,F.f4,F.f5,F.f6,F.f7,F.f8,F.f9,F.f10,F.f12,F.f13,F.f14,F.f15,F.f16,F.f17,F.f18,F.f19,F.f20,F.f21,F.f22,F.f23,F.f24,F.f25,F.f26,F.f27,F.f28,F.f29,F.f30,F.f31,F.f32,F.f33,F.f34,F.f35,F.f36,F.f37,F.f38,F.f39,F.f40,F.f41,F.f42,F.f43,F.f44,F.f45,F.f46,F.f47,F.st0,F.st1,F.st2,F.st3,F.st4,F.st5,F.st6⟩
      clear F
      go_simp
      exact HK.out _ _ ⟨⟨_,_,_,_,_,_,_,_,_,_,_,_,_,_,_,_,_,_,_,_,_,_,_,_,_,_,_,_,_,_,_,_,_,_,_,_,_,_,_,_,_,_,_,_,_,_,_,_,_,_,_,_,_⟩,rfl,HF.out⟩
    · obtain rfl := F.f2 (by simp [hdep])
      have HF : Hid (alive9F av cv pb S0 S1 S2 S3 S4 S5 S6 (upd d_ 3) x67 x68 (.bool false) (.int .i64 0) x71 x72 x73 x74 x75 x76 x77 x78 x79 x80 x81 x82 x83 x84 x85 x86 x87 x88 x89 x90 x91 x92 x93 x94 x95 x96 x97 x98 x99 x100 x101 x102 x103 x104 x105 x106 x107 x108 x109 x110 x111 x112 x113 x114 ua ub uc ud ue w1) := ⟨F.q1,F.q2,fun _ => (show _ from (by simp [hdep] : d_ 2 = true)),fun h => ⟨(F.q4 h).1,rfl⟩,F.q5,F.q6,F.q7,F.q8,F.q9,F.q10,F.q11,F.q12,F.q13,F.q14,F.q15,F.q16,F.q17,F.q18,F.q19,F.q20,F.q21,F.q22,F.q23,F.q24,F.q25,F.q26,F.q27,F.q28,F.q29,F.q30,F.q31,F.q32,F.q33,F.q34,F.q35,F.q36,F.q37,F.q38,F.q39,F.q40,F.q41,F.q42,F.q43,F.q44,F.q45,F.q46,F.q47,F.f0,F.f1,F.f2,fun _ => rfl,F.f4,F.f5,F.f6,F.f7,F.f8,F.f9,F.f10,F.f12,F.f13,F.f14,F.f15,F.f16,F.f17,F.f18,F.f19,F.f20,F.f21,F.f22,F.f23,F.f24,F.f25,F.f26,F.f27,F.f28,F.f29,F.f30,F.f31,F.f32,F.f33,F.f34,F.f35,F.f36,F.f37,F.f38,F.f39,F.f40,F.f41,F.f42,F.f43,F.f44,F.f45,F.f46,F.f47,F.st0,F.st1,F.st2,F.st3,F.st4,F.st5,F.st6⟩
      clear F
      go_simp
      exact HK.out _ _ ⟨⟨_,_,_,_,_,_,_,_,_,_,_,_,_,_,_,_,_,_,_,_,_,_,_,_,_,_,_,_,_,_,_,_,_,_,_,_,_,_,_,_,_,_,_,_,_,_,_,_,_,_,_,_,_⟩,rfl,HF.out⟩
    · obtain rfl := F.f2 (by simp [hdep])
      obtain rfl := F.f3 (by simp [hdep])
      have HF : Hid (alive9F av cv pb S0 S1 S2 S3 S4 S5 S6 (upd d_ 4) x67 x68 (.bool false) (.int .i64 0) (.bool false) x72 x73 x74 x75 x76 x77 x78 x79 x80 x81 x82 x83 x84 x85 x86 x87 x88 x89 x90 x91 x92 x93 x94 x95 x96 x97 x98 x99 x100 x101 x102 x103 x104 x105 x106 x107 x108 x109 x110 x111 x112 x113 x114 ua ub uc ud ue w1) := ⟨F.q1,F.q2,F.q3,fun _ => ⟨(show _ from (by simp [hdep] : d_ 2 = true)),(show _ from (by simp [hdep] : d_ 3 = true))⟩,fun h => ⟨(F.q5 h).1,rfl⟩,F.q6,F.q7,F.q8,F.q9,F.q10,F.q11,F.q12,F.q13,F.q14,F.q15,F.q16,F.q17,F.q18,F.q19,F.q20,F.q21,F.q22,F.q23,F.q24,F.q25,F.q26,F.q27,F.q28,F.q29,F.q30,F.q31,F.q32,F.q33,F.q34,F.q35,F.q36,F.q37,F.q38,F.q39,F.q40,F.q41,F.q42,F.q43,F.q44,F.q45,F.q46,F.q47,F.f0,F.f1,F.f2,F.f3,fun _ => rfl,F.f5,F.f6,F.f7,F.f8,F.f9,F.f10,F.f12,F.f13,F.f14,F.f15,F.f16,F.f17,F.f18,F.f19,F.f20,F.f21,F.f22,F.f23,F.f24,F.f25,F.f26,F.f27,F.f28,F.f29,F.f30,F.f31,F.f32,F.f33,F.f34,F.f35,F.f36,F.f37,F.f38,F.f39,F.f40,F.f41,F.f42,F.f43,F.f44,F.f45,F.f46,F.f47,F.st0,F.st1,F.st2,F.st3,F.st4,F.st5,F.st6⟩
      clear F
      go_simp
      exact HK.out _ _ ⟨⟨_,_,_,_,_,_,_,_,_,_,_,_,_,_,_,_,_,_,_,_,_,_,_,_,_,_,_,_,_,_,_,_,_,_,_,_,_,_,_,_,_,_,_,_,_,_,_,_,_,_,_,_,_⟩,rfl,HF.out⟩
    · obtain rfl := F.f2 (by simp [hdep])
      obtain rfl := F.f4 (by simp [hdep])
      have HF : Hid (alive9F av cv pb S0 S1 S2 S3 S4 S5 S6 (upd d_ 5) x67 x68 (.bool false) x70 (.bool false) (.bool false) x73 x74 x75 x76 x77 x78 x79 x80 x81 x82 x83 x84 x85 x86 x87 x88 x89 x90 x91 x92 x93 x94 x95 x96 x97 x98 x99 x100 x101 x102 x103 x104 x105 x106 x107 x108 x109 x110 x111 x112 x113 x114 ua ub uc ud ue w1) := ⟨F.q1,F.q2,F.q3,F.q4,fun _ => ⟨(show _ from (by simp [hdep] : d_ 2 = true)),(show _ from (by simp [hdep] : d_ 4 = true))⟩,fun h => ⟨(F.q6 h).1,rfl⟩,F.q7,F.q8,F.q9,F.q10,F.q11,F.q12,F.q13,F.q14,F.q15,F.q16,F.q17,F.q18,F.q19,F.q20,F.q21,F.q22,F.q23,F.q24,F.q25,F.q26,F.q27,F.q28,F.q29,F.q30,F.q31,F.q32,F.q33,F.q34,F.q35,F.q36,F.q37,F.q38,F.q39,F.q40,F.q41,F.q42,F.q43,F.q44,F.q45,F.q46,F.q47,F.f0,F.f1,F.f2,F.f3,F.f4,fun _ => rfl,F.f6,F.f7,F.f8,F.f9,F.f10,F.f12,F.f13,F.f14,F.f15,F.f16,F.f17,F.f18,F.f19,F.f20,F.f21,F.f22,F.f23,F.f24,F.f25,F.f26,F.f27,F.f28,F.f29,F.f30,F.f31,F.f32,F.f33,F.f34,F.f35,F.f36,F.f37,F.f38,F.f39,F.f40,F.f41,F.f42,F.f43,F.f44,F.f45,F.f46,F.f47,F.st0,F.st1,F.st2,F.st3,F.st4,F.st5,F.st6⟩
      clear F
      go_simp
      exact HK.out _ _ ⟨⟨_,_,_,_,_,_,_,_,_,_,_,_,_,_,_,_,_,_,_,_,_,_,_,_,_,_,_,_,_,_,_,_,_,_,_,_,_,_,_,_,_,_,_,_,_,_,_,_,_,_,_,_,_⟩,rfl,HF.out⟩
    · obtain rfl := F.f5 (by simp [hdep])
      have HF : Hid (alive9F av cv pb S0 S1 S2 S3 S4 S5 S6 (upd d_ 6) x67 x68 x69 x70 x71 (.bool false) (.bool false) x74 x75 x76 x77 x78 x79 x80 x81 x82 x83 x84 x85 x86 x87 x88 x89 x90 x91 x92 x93 x94 x95 x96 x97 x98 x99 x100 x101 x102 x103 x104 x105 x106 x107 x108 x109 x110 x111 x112 x113 x114 ua ub uc ud ue w1) := ⟨F.q1,F.q2,F.q3,F.q4,F.q5,fun _ => ⟨(show _ from (by simp [hdep] : d_ 2 = true)),(show _ from (by simp [hdep] : d_ 5 = true))⟩,fun h => rfl,fun h => rfl,fun h => ⟨rfl,(F.q9 h).2⟩,fun h => ⟨rfl,(F.q10 h).2⟩,fun h => ⟨rfl,(F.q11 h).2.1,(F.q11 h).2.2.1,(F.q11 h).2.2.2⟩,fun h => ⟨rfl,(F.q12 h).2.1,(F.q12 h).2.2.1,(F.q12 h).2.2.2⟩,fun h => ⟨rfl,(F.q13 h).2⟩,fun h => ⟨rfl,(F.q14 h).2⟩,F.q15,F.q16,F.q17,F.q18,F.q19,F.q20,F.q21,F.q22,F.q23,F.q24,F.q25,F.q26,F.q27,F.q28,F.q29,F.q30,F.q31,F.q32,F.q33,F.q34,F.q35,F.q36,F.q37,F.q38,F.q39,F.q40,F.q41,F.q42,F.q43,F.q44,F.q45,F.q46,F.q47,F.f0,F.f1,F.f2,F.f3,F.f4,F.f5,fun _ => rfl,F.f7,F.f8,F.f9,F.f10,F.f12,F.f13,F.f14,F.f15,F.f16,F.f17,F.f18,F.f19,F.f20,F.f21,F.f22,F.f23,F.f24,F.f25,F.f26,F.f27,F.f28,F.f29,F.f30,F.f31,F.f32,F.f33,F.f34,F.f35,F.f36,F.f37,F.f38,F.f39,F.f40,F.f41,F.f42,F.f43,F.f44,F.f45,F.f46,F.f47,F.st0,F.st1,F.st2,F.st3,F.st4,F.st5,F.st6⟩
      clear F
      go_simp
      exact HK.out _ _ ⟨⟨_,_,_,_,_,_,_,_,_,_,_,_,_,_,_,_,_,_,_,_,_,_,_,_,_,_,_,_,_,_,_,_,_,_,_,_,_,_,_,_,_,_,_,_,_,_,_,_,_,_,_,_,_⟩,rfl,HF.out⟩
    · obtain rfl := F.f6 (by simp [hdep])
      have HF : Hid (alive9F av cv pb S0 S1 S2 S3 S4 S5 S6 (upd d_ 7) x67 x68 x69 x70 x71 x72 (.bool false) (.slice av 3 cv) x75 x76 x77 x78 x79 x80 x81 x82 x83 x84 x85 x86 x87 x88 x89 x90 x91 x92 x93 x94 x95 x96 x97 x98 x99 x100 x101 x102 x103 x104 x105 x106 x107 x108 x109 x110 x111 x112 x113 x114 ua ub uc ud ue w1) := ⟨F.q1,F.q2,F.q3,F.q4,F.q5,F.q6,fun _ => (show _ from (by simp [hdep] : d_ 6 = true)),F.q8,F.q9,F.q10,F.q11,fun h => ⟨(F.q12 h).1,rfl,(F.q12 h).2.2.1,(F.q12 h).2.2.2⟩,F.q13,F.q14,F.q15,F.q16,F.q17,F.q18,F.q19,F.q20,F.q21,F.q22,F.q23,F.q24,F.q25,F.q26,F.q27,F.q28,F.q29,F.q30,F.q31,F.q32,F.q33,F.q34,F.q35,F.q36,F.q37,F.q38,F.q39,F.q40,F.q41,F.q42,F.q43,F.q44,F.q45,F.q46,F.q47,F.f0,F.f1,F.f2,F.f3,F.f4,F.f5,F.f6,fun _ => rfl,F.f8,F.f9,F.f10,F.f12,F.f13,F.f14,F.f15,F.f16,F.f17,F.f18,F.f19,F.f20,F.f21,F.f22,F.f23,F.f24,F.f25,F.f26,F.f27,F.f28,F.f29,F.f30,F.f31,F.f32,F.f33,F.f34,F.f35,F.f36,F.f37,F.f38,F.f39,F.f40,F.f41,F.f42,F.f43,F.f44,F.f45,F.f46,F.f47,F.st0,F.st1,F.st2,F.st3,F.st4,F.st5,F.st6⟩
      clear F
      go_simp
      exact HK.out _ _ ⟨⟨_,_,_,_,_,_,_,_,_,_,_,_,_,_,_,_,_,_,_,_,_,_,_,_,_,_,_,_,_,_,_,_,_,_,_,_,_,_,_,_,_,_,_,_,_,_,_,_,_,_,_,_,_⟩,rfl,HF.out⟩
    · have hS := F.st0  hd_
      obtain rfl := F.f6 (by simp [hdep])
      have hc := kc8.out w1 hS
      have HF := Lib.hid F
      clear F
      go_simp
      refine ⟨trivial,rfl,wideAt_calls (hc.mono ?_)⟩
      rintro e w5 ⟨v_,rfl,hres⟩
      exact HK.out _ _ ⟨⟨_,_,_,_,_,_,_,_,_,_,_,_,_,_,_,_,_,_,_,_,_,_,_,_,_,_,_,_,_,_,_,_,_,_,_,_,_,_,_,_,_,_,_,_,_,_,_,_,v_,ub,uc,ud,ue⟩,rfl,⟨HF.out.q1,HF.out.q2,HF.out.q3,HF.out.q4,HF.out.q5,HF.out.q6,HF.out.q7,fun _ => (show _ from (by simp [hdep] : d_ 6 = true)),fun h => ⟨(HF.out.q9 h).1,rfl⟩,HF.out.q10,fun h => ⟨(HF.out.q11 h).1,rfl,(HF.out.q11 h).2.2.1,(HF.out.q11 h).2.2.2⟩,HF.out.q12,HF.out.q13,HF.out.q14,HF.out.q15,HF.out.q16,HF.out.q17,HF.out.q18,HF.out.q19,HF.out.q20,HF.out.q21,HF.out.q22,HF.out.q23,HF.out.q24,HF.out.q25,HF.out.q26,HF.out.q27,HF.out.q28,HF.out.q29,HF.out.q30,HF.out.q31,HF.out.q32,HF.out.q33,HF.out.q34,HF.out.q35,HF.out.q36,HF.out.q37,HF.out.q38,HF.out.q39,HF.out.q40,HF.out.q41,HF.out.q42,HF.out.q43,HF.out.q44,HF.out.q45,HF.out.q46,HF.out.q47,HF.out.f0,HF.out.f1,HF.out.f2,HF.out.f3,HF.out.f4,HF.out.f5,HF.out.f6,HF.out.f7,fun _ => rfl,HF.out.f9,HF.out.f10,HF.out.f12,HF.out.f13,HF.out.f14,HF.out.f15,HF.out.f16,HF.out.f17,HF.out.f18,HF.out.f19,HF.out.f20,HF.out.f21,HF.out.f22,HF.out.f23,HF.out.f24,HF.out.f25,HF.out.f26,HF.out.f27,HF.out.f28,HF.out.f29,HF.out.f30,HF.out.f31,HF.out.f32,HF.out.f33,HF.out.f34,HF.out.f35,HF.out.f36,HF.out.f37,HF.out.f38,HF.out.f39,HF.out.f40,HF.out.f41,HF.out.f42,HF.out.f43,HF.out.f44,HF.out.f45,HF.out.f46,HF.out.f47,fun h => (by simp [upd] at h),fun _ _ => hres,fun h _ => (by have h2 : d_ 8 = true := (HF.out.q9 h).2; rw [show d_ 8 = false from hd_] at h2; cases h2),fun h _ => (by have h2 : d_ 8 = true := (HF.out.q9 (HF.out.q10 h).2).2; rw [show d_ 8 = false from hd_] at h2; cases h2),fun h _ => (by have h2 : d_ 8 = true := (HF.out.q11 h).2.1; rw [show d_ 8 = false from hd_] at h2; cases h2),fun h _ => (by have h2 : d_ 8 = true := (HF.out.q9 (HF.out.q10 (HF.out.q12 h).2.2.1).2).2; rw [show d_ 8 = false from hd_] at h2; cases h2),fun h => (by have h2 : d_ 8 = true := (HF.out.q9 (HF.out.q10 (HF.out.q12 (HF.out.q15 (HF.out.q17 h)).1).2.2.1).2).2; rw [show d_ 8 = false from hd_] at h2; cases h2)⟩⟩
    · have hS := F.st1 (by simp [hdep] : d_ 8 = true) hd_
      obtain rfl := F.f6 (by simp [hdep])
      have hc := kc9.out ua w1 hS
      have HF := Lib.hid F
      clear F
      go_simp
      refine ⟨trivial,rfl,wideAt_calls (hc.mono ?_)⟩
      rintro e w5 ⟨v_,rfl,hres⟩
      exact HK.out _ _ ⟨⟨_,_,_,_,_,_,_,_,_,_,_,_,_,_,_,_,_,_,_,_,_,_,_,_,_,_,_,_,_,_,_,_,_,_,_,_,_,_,_,_,_,_,_,_,_,_,_,_,ua,v_,uc,ud,ue⟩,rfl,⟨HF.out.q1,HF.out.q2,HF.out.q3,HF.out.q4,HF.out.q5,HF.out.q6,HF.out.q7,HF.out.q8,fun _ => ⟨(show _ from (by simp [hdep] : d_ 6 = true)),(show _ from (by simp [hdep] : d_ 8 = true))⟩,fun h => ⟨(HF.out.q10 h).1,rfl⟩,fun h => ⟨(HF.out.q11 h).1,(HF.out.q11 h).2.1,rfl,(HF.out.q11 h).2.2.2⟩,HF.out.q12,HF.out.q13,HF.out.q14,HF.out.q15,HF.out.q16,HF.out.q17,HF.out.q18,HF.out.q19,HF.out.q20,HF.out.q21,HF.out.q22,HF.out.q23,HF.out.q24,HF.out.q25,HF.out.q26,HF.out.q27,HF.out.q28,HF.out.q29,HF.out.q30,HF.out.q31,HF.out.q32,HF.out.q33,HF.out.q34,HF.out.q35,HF.out.q36,HF.out.q37,HF.out.q38,HF.out.q39,HF.out.q40,HF.out.q41,HF.out.q42,HF.out.q43,HF.out.q44,HF.out.q45,HF.out.q46,HF.out.q47,HF.out.f0,HF.out.f1,HF.out.f2,HF.out.f3,HF.out.f4,HF.out.f5,HF.out.f6,HF.out.f7,HF.out.f8,fun _ => rfl,HF.out.f10,HF.out.f12,HF.out.f13,HF.out.f14,HF.out.f15,HF.out.f16,HF.out.f17,HF.out.f18,HF.out.f19,HF.out.f20,HF.out.f21,HF.out.f22,HF.out.f23,HF.out.f24,HF.out.f25,HF.out.f26,HF.out.f27,HF.out.f28,HF.out.f29,HF.out.f30,HF.out.f31,HF.out.f32,HF.out.f33,HF.out.f34,HF.out.f35,HF.out.f36,HF.out.f37,HF.out.f38,HF.out.f39,HF.out.f40,HF.out.f41,HF.out.f42,HF.out.f43,HF.out.f44,HF.out.f45,HF.out.f46,HF.out.f47,fun h => (by have h2 : d_ 8 = false := h; rw [(by simp [hdep] : d_ 8 = true)] at h2; cases h2),fun _ h => (by simp [upd] at h),fun _ _ => hres,fun h _ => (by have h2 : d_ 9 = true := (HF.out.q10 h).2; rw [show d_ 9 = false from hd_] at h2; cases h2),fun h _ => (by have h2 : d_ 9 = true := (HF.out.q11 h).2.2.1; rw [show d_ 9 = false from hd_] at h2; cases h2),fun h _ => (by have h2 : d_ 9 = true := (HF.out.q10 (HF.out.q12 h).2.2.1).2; rw [show d_ 9 = false from hd_] at h2; cases h2),fun h => (by have h2 : d_ 9 = true := (HF.out.q10 (HF.out.q12 (HF.out.q15 (HF.out.q17 h)).1).2.2.1).2; rw [show d_ 9 = false from hd_] at h2; cases h2)⟩⟩
    · have hS := F.st2 (by simp [hdep] : d_ 9 = true) hd_
      obtain rfl := F.f6 (by simp [hdep])
      have hc := kc10.out ua ub w1 hS
      have HF := Lib.hid F
      clear F
      go_simp
      refine ⟨trivial,rfl,wideAt_calls (hc.mono ?_)⟩
      rintro e w5 ⟨v_,rfl,hres⟩
      exact HK.out _ _ ⟨⟨_,_,_,_,_,_,_,_,_,_,_,_,_,_,_,_,_,_,_,_,_,_,_,_,_,_,_,_,_,_,_,_,_,_,_,_,_,_,_,_,_,_,_,_,_,_,_,_,ua,ub,v_,ud,ue⟩,rfl,⟨HF.out.q1,HF.out.q2,HF.out.q3,HF.out.q4,HF.out.q5,HF.out.q6,HF.out.q7,HF.out.q8,HF.out.q9,fun _ => ⟨(show _ from (by simp [hdep] : d_ 6 = true)),(show _ from (by simp [hdep] : d_ 9 = true))⟩,fun h => ⟨(HF.out.q11 h).1,(HF.out.q11 h).2.1,(HF.out.q11 h).2.2.1,rfl⟩,fun h => ⟨(HF.out.q12 h).1,(HF.out.q12 h).2.1,rfl,(HF.out.q12 h).2.2.2⟩,HF.out.q13,HF.out.q14,HF.out.q15,HF.out.q16,HF.out.q17,HF.out.q18,HF.out.q19,HF.out.q20,HF.out.q21,HF.out.q22,HF.out.q23,HF.out.q24,HF.out.q25,HF.out.q26,HF.out.q27,HF.out.q28,HF.out.q29,HF.out.q30,HF.out.q31,HF.out.q32,HF.out.q33,HF.out.q34,HF.out.q35,HF.out.q36,HF.out.q37,HF.out.q38,HF.out.q39,HF.out.q40,HF.out.q41,HF.out.q42,HF.out.q43,HF.out.q44,HF.out.q45,HF.out.q46,HF.out.q47,HF.out.f0,HF.out.f1,HF.out.f2,HF.out.f3,HF.out.f4,HF.out.f5,HF.out.f6,HF.out.f7,HF.out.f8,HF.out.f9,fun _ => rfl,HF.out.f12,HF.out.f13,HF.out.f14,HF.out.f15,HF.out.f16,HF.out.f17,HF.out.f18,HF.out.f19,HF.out.f20,HF.out.f21,HF.out.f22,HF.out.f23,HF.out.f24,HF.out.f25,HF.out.f26,HF.out.f27,HF.out.f28,HF.out.f29,HF.out.f30,HF.out.f31,HF.out.f32,HF.out.f33,HF.out.f34,HF.out.f35,HF.out.f36,HF.out.f37,HF.out.f38,HF.out.f39,HF.out.f40,HF.out.f41,HF.out.f42,HF.out.f43,HF.out.f44,HF.out.f45,HF.out.f46,HF.out.f47,fun h => (by have h2 : d_ 8 = false := h; rw [(HF.out.q9 (by simp [hdep] : d_ 9 = true)).2] at h2; cases h2),fun _ h => (by have h2 : d_ 9 = false := h; rw [(by simp [hdep] : d_ 9 = true)] at h2; cases h2),fun _ h => (by simp [upd] at h),fun _ _ => hres,fun h _ => (by have h2 : d_ 10 = true := (HF.out.q11 h).2.2.2; rw [show d_ 10 = false from hd_] at h2; cases h2),fun h _ => (by have h2 : d_ 10 = true := (HF.out.q12 h).2.2.1; rw [show d_ 10 = false from hd_] at h2; cases h2),fun h => (by have h2 : d_ 10 = true := (HF.out.q12 (HF.out.q15 (HF.out.q17 h)).1).2.2.1; rw [show d_ 10 = false from hd_] at h2; cases h2)⟩⟩
    · have hS := F.st3 (by simp [hdep] : d_ 10 = true) hd_
      obtain rfl := F.f6 (by simp [hdep])
      obtain rfl := F.f8 (by simp [hdep])
      obtain rfl := F.f9 (by simp [hdep])
      obtain rfl := F.f10 (by simp [hdep])
      have hres := kc11.out ua ub uc w1 hS
      have HF : Hid (alive9F av cv pb S0 S1 S2 S3 S4 S5 S6 (upd d_ 11) x67 x68 x69 x70 x71 x72 (.bool false) x74 (.agg #[.int .i64 420,.int .i64 420]) (.agg #[.int .i64 445,.int .i64 455]) (.agg #[.int .i64 500,.int .i64 510]) ((.slice (some ⟨w1.heap.size,0,none⟩) 3 3)) x79 x80 x81 x82 x83 x84 x85 x86 x87 x88 x89 x90 x91 x92 x93 x94 x95 x96 x97 x98 x99 x100 x101 x102 x103 x104 x105 x106 x107 x108 x109 x110 x111 x112 x113 x114 ua ub uc ud ue (w1.alloc (.cells #[.int .i64 420,.int .i64 420,.int .i64 445,.int .i64 455,.int .i64 500,.int .i64 510] 33))) := ⟨F.q1,F.q2,F.q3,F.q4,F.q5,F.q6,F.q7,F.q8,F.q9,F.q10,fun _ => ⟨(show _ from (by simp [hdep] : d_ 6 = true)),(show _ from (by simp [hdep] : d_ 8 = true)),(show _ from (by simp [hdep] : d_ 9 = true)),(show _ from (by simp [hdep] : d_ 10 = true))⟩,fun h => ⟨(F.q12 h).1,(F.q12 h).2.1,(F.q12 h).2.2.1,rfl⟩,F.q13,F.q14,F.q15,F.q16,F.q17,F.q18,F.q19,F.q20,F.q21,F.q22,F.q23,F.q24,F.q25,F.q26,F.q27,F.q28,F.q29,F.q30,F.q31,F.q32,F.q33,F.q34,F.q35,F.q36,F.q37,F.q38,F.q39,F.q40,F.q41,F.q42,F.q43,F.q44,F.q45,F.q46,F.q47,F.f0,F.f1,F.f2,F.f3,F.f4,F.f5,F.f6,F.f7,F.f8,F.f9,F.f10,F.f12,F.f13,F.f14,F.f15,F.f16,F.f17,F.f18,F.f19,F.f20,F.f21,F.f22,F.f23,F.f24,F.f25,F.f26,F.f27,F.f28,F.f29,F.f30,F.f31,F.f32,F.f33,F.f34,F.f35,F.f36,F.f37,F.f38,F.f39,F.f40,F.f41,F.f42,F.f43,F.f44,F.f45,F.f46,F.f47,fun h => (by have h2 : d_ 8 = false := h; rw [(by simp [hdep] : d_ 8 = true)] at h2; cases h2),fun _ h => (by have h2 : d_ 9 = false := h; rw [(by simp [hdep] : d_ 9 = true)] at h2; cases h2),fun _ h => (by have h2 : d_ 10 = false := h; rw [(by simp [hdep] : d_ 10 = true)] at h2; cases h2),fun _ h => (by simp [upd] at h),fun _ _ => hres,fun h _ => (by have h2 : d_ 11 = true := (F.q12 h).2.2.2; rw [show d_ 11 = false from hd_] at h2; cases h2),fun h => (by have h2 : d_ 11 = true := (F.q12 (F.q15 (F.q17 h)).1).2.2.2; rw [show d_ 11 = false from hd_] at h2; cases h2)⟩
      clear F hS hres
      go_simp
      exact HK.out _ _ ⟨⟨_,_,_,_,_,_,_,_,_,_,_,_,_,_,_,_,_,_,_,_,_,_,_,_,_,_,_,_,_,_,_,_,_,_,_,_,_,_,_,_,_,_,_,_,_,_,_,_,_,_,_,_,_⟩,rfl,HF.out⟩
    · have hS := F.st4 (by simp [hdep] : d_ 11 = true) hd_
      obtain rfl := F.f6 (by simp [hdep])
      obtain rfl := F.f7 (by simp [hdep])
      have hc := kc12.out ua ub uc x78 w1 hS
      have HF := Lib.hid F
      clear F
      go_simp
      refine ⟨trivial,rfl,wideAt_calls (hc.mono ?_)⟩
      rintro e w5 ⟨v_,rfl,hres⟩
      exact HK.out _ _ ⟨⟨_,_,_,_,_,_,_,_,_,_,_,_,_,_,_,_,_,_,_,_,_,_,_,_,_,_,_,_,_,_,_,_,_,_,_,_,_,_,_,_,_,_,_,_,_,_,_,_,ua,ub,uc,v_,ue⟩,rfl,⟨HF.out.q1,HF.out.q2,HF.out.q3,HF.out.q4,HF.out.q5,HF.out.q6,HF.out.q7,HF.out.q8,HF.out.q9,HF.out.q10,HF.out.q11,fun _ => ⟨(show _ from (by simp [hdep] : d_ 6 = true)),(show _ from (by simp [hdep] : d_ 7 = true)),(show _ from (by simp [hdep] : d_ 10 = true)),(show _ from (by simp [hdep] : d_ 11 = true))⟩,fun h => ⟨(HF.out.q13 h).1,rfl⟩,HF.out.q14,fun h => ⟨rfl,(HF.out.q15 h).2⟩,HF.out.q16,HF.out.q17,HF.out.q18,HF.out.q19,HF.out.q20,HF.out.q21,HF.out.q22,HF.out.q23,HF.out.q24,HF.out.q25,HF.out.q26,HF.out.q27,HF.out.q28,HF.out.q29,HF.out.q30,HF.out.q31,HF.out.q32,HF.out.q33,HF.out.q34,HF.out.q35,HF.out.q36,HF.out.q37,HF.out.q38,HF.out.q39,HF.out.q40,HF.out.q41,HF.out.q42,HF.out.q43,HF.out.q44,HF.out.q45,HF.out.q46,HF.out.q47,HF.out.f0,HF.out.f1,HF.out.f2,HF.out.f3,HF.out.f4,HF.out.f5,HF.out.f6,HF.out.f7,HF.out.f8,HF.out.f9,HF.out.f10,fun _ => rfl,HF.out.f13,HF.out.f14,HF.out.f15,HF.out.f16,HF.out.f17,HF.out.f18,HF.out.f19,HF.out.f20,HF.out.f21,HF.out.f22,HF.out.f23,HF.out.f24,HF.out.f25,HF.out.f26,HF.out.f27,HF.out.f28,HF.out.f29,HF.out.f30,HF.out.f31,HF.out.f32,HF.out.f33,HF.out.f34,HF.out.f35,HF.out.f36,HF.out.f37,HF.out.f38,HF.out.f39,HF.out.f40,HF.out.f41,HF.out.f42,HF.out.f43,HF.out.f44,HF.out.f45,HF.out.f46,HF.out.f47,fun h => (by have h2 : d_ 8 = false := h; rw [(HF.out.q9 (HF.out.q10 (by simp [hdep] : d_ 10 = true)).2).2] at h2; cases h2),fun _ h => (by have h2 : d_ 9 = false := h; rw [(HF.out.q10 (by simp [hdep] : d_ 10 = true)).2] at h2; cases h2),fun _ h => (by have h2 : d_ 10 = false := h; rw [(by simp [hdep] : d_ 10 = true)] at h2; cases h2),fun _ h => (by have h2 : d_ 11 = false := h; rw [(by simp [hdep] : d_ 11 = true)] at h2; cases h2),fun _ h => (by simp [upd] at h),fun _ _ => hres,fun h => (by have h2 : d_ 12 = true := (HF.out.q15 (HF.out.q17 h)).1; rw [show d_ 12 = false from hd_] at h2; cases h2)⟩⟩
    · obtain rfl := F.f6 (by simp [hdep])
      obtain rfl := F.f12 (by simp [hdep])
      have HF : Hid (alive9F av cv pb S0 S1 S2 S3 S4 S5 S6 (upd d_ 13) x67 x68 x69 x70 x71 x72 (.bool false) x74 x75 x76 x77 x78 (.bool true) (.bool false) x81 x82 x83 x84 x85 x86 x87 x88 x89 x90 x91 x92 x93 x94 x95 x96 x97 x98 x99 x100 x101 x102 x103 x104 x105 x106 x107 x108 x109 x110 x111 x112 x113 x114 ua ub uc ud ue w1) := ⟨F.q1,F.q2,F.q3,F.q4,F.q5,F.q6,F.q7,F.q8,F.q9,F.q10,F.q11,F.q12,fun _ => ⟨(show _ from (by simp [hdep] : d_ 6 = true)),(show _ from (by simp [hdep] : d_ 12 = true))⟩,fun h => ⟨(F.q14 h).1,rfl⟩,F.q15,F.q16,F.q17,F.q18,F.q19,F.q20,F.q21,F.q22,F.q23,F.q24,F.q25,F.q26,F.q27,F.q28,F.q29,F.q30,F.q31,F.q32,F.q33,F.q34,F.q35,F.q36,F.q37,F.q38,F.q39,F.q40,F.q41,F.q42,F.q43,F.q44,F.q45,F.q46,F.q47,F.f0,F.f1,F.f2,F.f3,F.f4,F.f5,F.f6,F.f7,F.f8,F.f9,F.f10,F.f12,fun _ => rfl,F.f14,F.f15,F.f16,F.f17,F.f18,F.f19,F.f20,F.f21,F.f22,F.f23,F.f24,F.f25,F.f26,F.f27,F.f28,F.f29,F.f30,F.f31,F.f32,F.f33,F.f34,F.f35,F.f36,F.f37,F.f38,F.f39,F.f40,F.f41,F.f42,F.f43,F.f44,F.f45,F.f46,F.f47,F.st0,F.st1,F.st2,F.st3,F.st4,F.st5,F.st6⟩
      clear F
      go_simp
      exact HK.out _ _ ⟨⟨_,_,_,_,_,_,_,_,_,_,_,_,_,_,_,_,_,_,_,_,_,_,_,_,_,_,_,_,_,_,_,_,_,_,_,_,_,_,_,_,_,_,_,_,_,_,_,_,_,_,_,_,_⟩,rfl,HF.out⟩
    · obtain rfl := F.f6 (by simp [hdep])
      obtain rfl := F.f13 (by simp [hdep])
      have HF : Hid (alive9F av cv pb S0 S1 S2 S3 S4 S5 S6 (upd d_ 14) x67 x68 x69 x70 x71 x72 (.bool false) x74 x75 x76 x77 x78 x79 (.bool false) (.bool false) x82 x83 x84 x85 x86 x87 x88 x89 x90 x91 x92 x93 x94 x95 x96 x97 x98 x99 x100 x101 x102 x103 x104 x105 x106 x107 x108 x109 x110 x111 x112 x113 x114 ua ub uc ud ue w1) := ⟨F.q1,F.q2,F.q3,F.q4,F.q5,F.q6,F.q7,F.q8,F.q9,F.q10,F.q11,F.q12,F.q13,fun _ => ⟨(show _ from (by simp [hdep] : d_ 6 = true)),(show _ from (by simp [hdep] : d_ 13 = true))⟩,fun h => ⟨(F.q15 h).1,rfl⟩,F.q16,F.q17,F.q18,F.q19,F.q20,F.q21,F.q22,F.q23,F.q24,F.q25,F.q26,F.q27,F.q28,F.q29,F.q30,F.q31,F.q32,F.q33,F.q34,F.q35,F.q36,F.q37,F.q38,F.q39,F.q40,F.q41,F.q42,F.q43,F.q44,F.q45,F.q46,F.q47,F.f0,F.f1,F.f2,F.f3,F.f4,F.f5,F.f6,F.f7,F.f8,F.f9,F.f10,F.f12,F.f13,fun _ => rfl,F.f15,F.f16,F.f17,F.f18,F.f19,F.f20,F.f21,F.f22,F.f23,F.f24,F.f25,F.f26,F.f27,F.f28,F.f29,F.f30,F.f31,F.f32,F.f33,F.f34,F.f35,F.f36,F.f37,F.f38,F.f39,F.f40,F.f41,F.f42,F.f43,F.f44,F.f45,F.f46,F.f47,F.st0,F.st1,F.st2,F.st3,F.st4,F.st5,F.st6⟩
      clear F
      go_simp
      exact HK.out _ _ ⟨⟨_,_,_,_,_,_,_,_,_,_,_,_,_,_,_,_,_,_,_,_,_,_,_,_,_,_,_,_,_,_,_,_,_,_,_,_,_,_,_,_,_,_,_,_,_,_,_,_,_,_,_,_,_⟩,rfl,HF.out⟩
    · obtain rfl := F.f14 (by simp [hdep])
      have HF : Hid (alive9F av cv pb S0 S1 S2 S3 S4 S5 S6 (upd d_ 15) x67 x68 x69 x70 x71 x72 x73 x74 x75 x76 x77 x78 x79 x80 (.bool false) (.bool false) x83 x84 x85 x86 x87 x88 x89 x90 x91 x92 x93 x94 x95 x96 x97 x98 x99 x100 x101 x102 x103 x104 x105 x106 x107 x108 x109 x110 x111 x112 x113 x114 ua ub uc ud ue w1) := ⟨F.q1,F.q2,F.q3,F.q4,F.q5,F.q6,F.q7,F.q8,F.q9,F.q10,F.q11,F.q12,F.q13,F.q14,fun _ => ⟨(show _ from (by simp [hdep] : d_ 12 = true)),(show _ from (by simp [hdep] : d_ 14 = true))⟩,fun h => rfl,fun h => rfl,fun h => ⟨rfl,(F.q18 h).2.1,(F.q18 h).2.2⟩,fun h => ⟨rfl,(F.q19 h).2⟩,F.q20,F.q21,F.q22,F.q23,F.q24,F.q25,F.q26,F.q27,F.q28,F.q29,F.q30,F.q31,F.q32,F.q33,F.q34,F.q35,F.q36,F.q37,F.q38,F.q39,F.q40,F.q41,F.q42,F.q43,F.q44,F.q45,F.q46,F.q47,F.f0,F.f1,F.f2,F.f3,F.f4,F.f5,F.f6,F.f7,F.f8,F.f9,F.f10,F.f12,F.f13,F.f14,fun _ => rfl,F.f16,F.f17,F.f18,F.f19,F.f20,F.f21,F.f22,F.f23,F.f24,F.f25,F.f26,F.f27,F.f28,F.f29,F.f30,F.f31,F.f32,F.f33,F.f34,F.f35,F.f36,F.f37,F.f38,F.f39,F.f40,F.f41,F.f42,F.f43,F.f44,F.f45,F.f46,F.f47,F.st0,F.st1,F.st2,F.st3,F.st4,F.st5,F.st6⟩
      clear F
      go_simp
      exact HK.out _ _ ⟨⟨_,_,_,_,_,_,_,_,_,_,_,_,_,_,_,_,_,_,_,_,_,_,_,_,_,_,_,_,_,_,_,_,_,_,_,_,_,_,_,_,_,_,_,_,_,_,_,_,_,_,_,_,_⟩,rfl,HF.out⟩
    · have hst : S5 ua ub uc x78 ud w1 ∨ S6 ua ub uc x78 ud ue w1 := by
        cases e6 : d_ 17 with
        | false => exact .inl ((F.st5 (F.q15 (by simp [hdep] : d_ 15 = true)).1 e6))
        | true =>
          exact .inr ((F.st6 e6))
      have kk := kl16.out ua ub uc x78 ud ue w1 hst
      obtain ⟨kk0,kk1⟩ := kk
      clear hst
      obtain rfl := F.f15 (by simp [hdep])
      have HF : Hid (alive9F av cv pb S0 S1 S2 S3 S4 S5 S6 (upd d_ 16) x67 x68 x69 x70 x71 x72 x73 x74 x75 x76 x77 x78 x79 x80 x81 (.bool false) (.agg #[.int .i64 505,.int .i64 520]) x84 x85 x86 x87 x88 x89 x90 x91 x92 x93 x94 x95 x96 x97 x98 x99 x100 x101 x102 x103 x104 x105 x106 x107 x108 x109 x110 x111 x112 x113 x114 ua ub uc ud ue w1) := ⟨F.q1,F.q2,F.q3,F.q4,F.q5,F.q6,F.q7,F.q8,F.q9,F.q10,F.q11,F.q12,F.q13,F.q14,F.q15,fun _ => (show _ from (by simp [hdep] : d_ 15 = true)),F.q17,fun h => ⟨(F.q18 h).1,rfl,(F.q18 h).2.2⟩,F.q19,F.q20,F.q21,F.q22,F.q23,F.q24,F.q25,F.q26,F.q27,F.q28,F.q29,F.q30,F.q31,F.q32,F.q33,F.q34,F.q35,F.q36,F.q37,F.q38,F.q39,F.q40,F.q41,F.q42,F.q43,F.q44,F.q45,F.q46,F.q47,F.f0,F.f1,F.f2,F.f3,F.f4,F.f5,F.f6,F.f7,F.f8,F.f9,F.f10,F.f12,F.f13,F.f14,F.f15,fun _ => rfl,F.f17,F.f18,F.f19,F.f20,F.f21,F.f22,F.f23,F.f24,F.f25,F.f26,F.f27,F.f28,F.f29,F.f30,F.f31,F.f32,F.f33,F.f34,F.f35,F.f36,F.f37,F.f38,F.f39,F.f40,F.f41,F.f42,F.f43,F.f44,F.f45,F.f46,F.f47,F.st0,F.st1,F.st2,F.st3,F.st4,F.st5,F.st6⟩
      clear F
      go_simp
      exact HK.out _ _ ⟨⟨_,_,_,_,_,_,_,_,_,_,_,_,_,_,_,_,_,_,_,_,_,_,_,_,_,_,_,_,_,_,_,_,_,_,_,_,_,_,_,_,_,_,_,_,_,_,_,_,_,_,_,_,_⟩,rfl,HF.out⟩
    · have hS := F.st5 (F.q15 (by simp [hdep] : d_ 15 = true)).1 hd_
      obtain rfl := F.f15 (by simp [hdep])
      have hc := kc17.out ua ub uc x78 ud w1 hS
      have HF := Lib.hid F
      clear F
      go_simp
      refine ⟨trivial,rfl,wideAt_calls (hc.mono ?_)⟩
      rintro e w5 ⟨v_,rfl,hres⟩
      exact HK.out _ _ ⟨⟨_,_,_,_,_,_,_,_,_,_,_,_,_,_,_,_,_,_,_,_,_,_,_,_,_,_,_,_,_,_,_,_,_,_,_,_,_,_,_,_,_,_,_,_,_,_,_,_,ua,ub,uc,ud,v_⟩,rfl,⟨HF.out.q1,HF.out.q2,HF.out.q3,HF.out.q4,HF.out.q5,HF.out.q6,HF.out.q7,HF.out.q8,HF.out.q9,HF.out.q10,HF.out.q11,HF.out.q12,HF.out.q13,HF.out.q14,HF.out.q15,HF.out.q16,fun _ => (show _ from (by simp [hdep] : d_ 15 = true)),fun h => ⟨(HF.out.q18 h).1,(HF.out.q18 h).2.1,rfl⟩,HF.out.q19,fun h => ⟨rfl,(HF.out.q20 h).2⟩,HF.out.q21,HF.out.q22,HF.out.q23,HF.out.q24,HF.out.q25,HF.out.q26,HF.out.q27,HF.out.q28,HF.out.q29,HF.out.q30,HF.out.q31,HF.out.q32,HF.out.q33,HF.out.q34,HF.out.q35,HF.out.q36,HF.out.q37,HF.out.q38,HF.out.q39,HF.out.q40,HF.out.q41,HF.out.q42,HF.out.q43,HF.out.q44,HF.out.q45,HF.out.q46,HF.out.q47,HF.out.f0,HF.out.f1,HF.out.f2,HF.out.f3,HF.out.f4,HF.out.f5,HF.out.f6,HF.out.f7,HF.out.f8,HF.out.f9,HF.out.f10,HF.out.f12,HF.out.f13,HF.out.f14,HF.out.f15,HF.out.f16,fun _ => rfl,HF.out.f18,HF.out.f19,HF.out.f20,HF.out.f21,HF.out.f22,HF.out.f23,HF.out.f24,HF.out.f25,HF.out.f26,HF.out.f27,HF.out.f28,HF.out.f29,HF.out.f30,HF.out.f31,HF.out.f32,HF.out.f33,HF.out.f34,HF.out.f35,HF.out.f36,HF.out.f37,HF.out.f38,HF.out.f39,HF.out.f40,HF.out.f41,HF.out.f42,HF.out.f43,HF.out.f44,HF.out.f45,HF.out.f46,HF.out.f47,fun h => (by have h2 : d_ 8 = false := h; rw [(HF.out.q9 (HF.out.q10 (HF.out.q12 (HF.out.q15 (by simp [hdep] : d_ 15 = true)).1).2.2.1).2).2] at h2; cases h2),fun _ h => (by have h2 : d_ 9 = false := h; rw [(HF.out.q10 (HF.out.q12 (HF.out.q15 (by simp [hdep] : d_ 15 = true)).1).2.2.1).2] at h2; cases h2),fun _ h => (by have h2 : d_ 10 = false := h; rw [(HF.out.q12 (HF.out.q15 (by simp [hdep] : d_ 15 = true)).1).2.2.1] at h2; cases h2),fun _ h => (by have h2 : d_ 11 = false := h; rw [(HF.out.q12 (HF.out.q15 (by simp [hdep] : d_ 15 = true)).1).2.2.2] at h2; cases h2),fun _ h => (by have h2 : d_ 12 = false := h; rw [(HF.out.q15 (by simp [hdep] : d_ 15 = true)).1] at h2; cases h2),fun _ h => (by simp [upd] at h),fun _ => hres⟩⟩
    · obtain rfl := F.f15 (by simp [hdep])
      obtain rfl := F.f16 (by simp [hdep])
      obtain rfl := F.f17 (by simp [hdep])
      have HF : Hid (alive9F av cv pb S0 S1 S2 S3 S4 S5 S6 (upd d_ 18) x67 x68 x69 x70 x71 x72 x73 x74 x75 x76 x77 x78 x79 x80 x81 (.bool false) (.agg #[.int .i64 505,.int .i64 520]) (.agg #[.int .i64 505,.int .i64 520]) (.bool false) x86 x87 x88 x89 x90 x91 x92 x93 x94 x95 x96 x97 x98 x99 x100 x101 x102 x103 x104 x105 x106 x107 x108 x109 x110 x111 x112 x113 x114 ua ub uc ud ue w1) := ⟨F.q1,F.q2,F.q3,F.q4,F.q5,F.q6,F.q7,F.q8,F.q9,F.q10,F.q11,F.q12,F.q13,F.q14,F.q15,F.q16,F.q17,fun _ => ⟨(show _ from (by simp [hdep] : d_ 15 = true)),(show _ from (by simp [hdep] : d_ 16 = true)),(show _ from (by simp [hdep] : d_ 17 = true))⟩,fun h => ⟨(F.q19 h).1,rfl⟩,F.q20,F.q21,F.q22,F.q23,F.q24,F.q25,F.q26,F.q27,F.q28,F.q29,F.q30,F.q31,F.q32,F.q33,F.q34,F.q35,F.q36,F.q37,F.q38,F.q39,F.q40,F.q41,F.q42,F.q43,F.q44,F.q45,F.q46,F.q47,F.f0,F.f1,F.f2,F.f3,F.f4,F.f5,F.f6,F.f7,F.f8,F.f9,F.f10,F.f12,F.f13,F.f14,F.f15,F.f16,F.f17,fun _ => rfl,F.f19,F.f20,F.f21,F.f22,F.f23,F.f24,F.f25,F.f26,F.f27,F.f28,F.f29,F.f30,F.f31,F.f32,F.f33,F.f34,F.f35,F.f36,F.f37,F.f38,F.f39,F.f40,F.f41,F.f42,F.f43,F.f44,F.f45,F.f46,F.f47,F.st0,F.st1,F.st2,F.st3,F.st4,F.st5,F.st6⟩
      clear F
      have hne : ∀ w,(binOp .neq 33 (.agg #[.int .i64 505,.int .i64 520]) (.agg #[.int .i64 505,.int .i64 520])).run Try.prog w = .ok (.bool false) w := fun w => by rw [neq33 ⟨505,520⟩ ⟨505,520⟩]; rfl
      go_simp
      exact HK.out _ _ ⟨⟨_,_,_,_,_,_,_,_,_,_,_,_,_,_,_,_,_,_,_,_,_,_,_,_,_,_,_,_,_,_,_,_,_,_,_,_,_,_,_,_,_,_,_,_,_,_,_,_,_,_,_,_,_⟩,rfl,HF.out⟩
    · obtain rfl := F.f15 (by simp [hdep])
      obtain rfl := F.f18 (by simp [hdep])
      have HF : Hid (alive9F av cv pb S0 S1 S2 S3 S4 S5 S6 (upd d_ 19) x67 x68 x69 x70 x71 x72 x73 x74 x75 x76 x77 x78 x79 x80 x81 (.bool false) x83 x84 (.bool false) (.bool false) x87 x88 x89 x90 x91 x92 x93 x94 x95 x96 x97 x98 x99 x100 x101 x102 x103 x104 x105 x106 x107 x108 x109 x110 x111 x112 x113 x114 ua ub uc ud ue w1) := ⟨F.q1,F.q2,F.q3,F.q4,F.q5,F.q6,F.q7,F.q8,F.q9,F.q10,F.q11,F.q12,F.q13,F.q14,F.q15,F.q16,F.q17,F.q18,fun _ => ⟨(show _ from (by simp [hdep] : d_ 15 = true)),(show _ from (by simp [hdep] : d_ 18 = true))⟩,fun h => ⟨(F.q20 h).1,rfl⟩,F.q21,F.q22,F.q23,F.q24,F.q25,F.q26,F.q27,F.q28,F.q29,F.q30,F.q31,F.q32,F.q33,F.q34,F.q35,F.q36,F.q37,F.q38,F.q39,F.q40,F.q41,F.q42,F.q43,F.q44,F.q45,F.q46,F.q47,F.f0,F.f1,F.f2,F.f3,F.f4,F.f5,F.f6,F.f7,F.f8,F.f9,F.f10,F.f12,F.f13,F.f14,F.f15,F.f16,F.f17,F.f18,fun _ => rfl,F.f20,F.f21,F.f22,F.f23,F.f24,F.f25,F.f26,F.f27,F.f28,F.f29,F.f30,F.f31,F.f32,F.f33,F.f34,F.f35,F.f36,F.f37,F.f38,F.f39,F.f40,F.f41,F.f42,F.f43,F.f44,F.f45,F.f46,F.f47,F.st0,F.st1,F.st2,F.st3,F.st4,F.st5,F.st6⟩
      clear F
      go_simp
      exact HK.out _ _ ⟨⟨_,_,_,_,_,_,_,_,_,_,_,_,_,_,_,_,_,_,_,_,_,_,_,_,_,_,_,_,_,_,_,_,_,_,_,_,_,_,_,_,_,_,_,_,_,_,_,_,_,_,_,_,_⟩,rfl,HF.out⟩
    · obtain rfl := F.f19 (by simp [hdep])
      have HF : Hid (alive9F av cv pb S0 S1 S2 S3 S4 S5 S6 (upd d_ 20) x67 x68 x69 x70 x71 x72 x73 x74 x75 x76 x77 x78 x79 x80 x81 x82 x83 x84 x85 (.bool false) (.bool false) x88 x89 x90 x91 x92 x93 x94 x95 x96 x97 x98 x99 x100 x101 x102 x103 x104 x105 x106 x107 x108 x109 x110 x111 x112 x113 x114 ua ub uc ud ue w1) := ⟨F.q1,F.q2,F.q3,F.q4,F.q5,F.q6,F.q7,F.q8,F.q9,F.q10,F.q11,F.q12,F.q13,F.q14,F.q15,F.q16,F.q17,F.q18,F.q19,fun _ => ⟨(show _ from (by simp [hdep] : d_ 17 = true)),(show _ from (by simp [hdep] : d_ 19 = true))⟩,fun h => rfl,fun h => ⟨rfl,(F.q22 h).2⟩,fun h => ⟨rfl,(F.q23 h).2⟩,fun h => ⟨rfl,(F.q24 h).2⟩,F.q25,F.q26,F.q27,F.q28,F.q29,F.q30,F.q31,F.q32,F.q33,F.q34,F.q35,F.q36,F.q37,F.q38,F.q39,F.q40,F.q41,F.q42,F.q43,F.q44,F.q45,F.q46,F.q47,F.f0,F.f1,F.f2,F.f3,F.f4,F.f5,F.f6,F.f7,F.f8,F.f9,F.f10,F.f12,F.f13,F.f14,F.f15,F.f16,F.f17,F.f18,F.f19,fun _ => rfl,F.f21,F.f22,F.f23,F.f24,F.f25,F.f26,F.f27,F.f28,F.f29,F.f30,F.f31,F.f32,F.f33,F.f34,F.f35,F.f36,F.f37,F.f38,F.f39,F.f40,F.f41,F.f42,F.f43,F.f44,F.f45,F.f46,F.f47,F.st0,F.st1,F.st2,F.st3,F.st4,F.st5,F.st6⟩
      clear F
      go_simp
      exact HK.out _ _ ⟨⟨_,_,_,_,_,_,_,_,_,_,_,_,_,_,_,_,_,_,_,_,_,_,_,_,_,_,_,_,_,_,_,_,_,_,_,_,_,_,_,_,_,_,_,_,_,_,_,_,_,_,_,_,_⟩,rfl,HF.out⟩
    · obtain rfl := F.f20 (by simp [hdep])
      have HF : Hid (alive9F av cv pb S0 S1 S2 S3 S4 S5 S6 (upd d_ 21) x67 x68 x69 x70 x71 x72 x73 x74 x75 x76 x77 x78 x79 x80 x81 x82 x83 x84 x85 x86 (.bool false) (.int .i64 0) x89 x90 x91 x92 x93 x94 x95 x96 x97 x98 x99 x100 x101 x102 x103 x104 x105 x106 x107 x108 x109 x110 x111 x112 x113 x114 ua ub uc ud ue w1) := ⟨F.q1,F.q2,F.q3,F.q4,F.q5,F.q6,F.q7,F.q8,F.q9,F.q10,F.q11,F.q12,F.q13,F.q14,F.q15,F.q16,F.q17,F.q18,F.q19,F.q20,fun _ => (show _ from (by simp [hdep] : d_ 20 = true)),fun h => ⟨(F.q22 h).1,rfl⟩,F.q23,F.q24,F.q25,F.q26,F.q27,F.q28,F.q29,F.q30,F.q31,F.q32,F.q33,F.q34,F.q35,F.q36,F.q37,F.q38,F.q39,F.q40,F.q41,F.q42,F.q43,F.q44,F.q45,F.q46,F.q47,F.f0,F.f1,F.f2,F.f3,F.f4,F.f5,F.f6,F.f7,F.f8,F.f9,F.f10,F.f12,F.f13,F.f14,F.f15,F.f16,F.f17,F.f18,F.f19,F.f20,fun _ => rfl,F.f22,F.f23,F.f24,F.f25,F.f26,F.f27,F.f28,F.f29,F.f30,F.f31,F.f32,F.f33,F.f34,F.f35,F.f36,F.f37,F.f38,F.f39,F.f40,F.f41,F.f42,F.f43,F.f44,F.f45,F.f46,F.f47,F.st0,F.st1,F.st2,F.st3,F.st4,F.st5,F.st6⟩
      clear F
      go_simp
      exact HK.out _ _ ⟨⟨_,_,_,_,_,_,_,_,_,_,_,_,_,_,_,_,_,_,_,_,_,_,_,_,_,_,_,_,_,_,_,_,_,_,_,_,_,_,_,_,_,_,_,_,_,_,_,_,_,_,_,_,_⟩,rfl,HF.out⟩
    · obtain rfl := F.f20 (by simp [hdep])
      obtain rfl := F.f21 (by simp [hdep])
      have HF : Hid (alive9F av cv pb S0 S1 S2 S3 S4 S5 S6 (upd d_ 22) x67 x68 x69 x70 x71 x72 x73 x74 x75 x76 x77 x78 x79 x80 x81 x82 x83 x84 x85 x86 (.bool false) (.int .i64 0) (.bool false) x90 x91 x92 x93 x94 x95 x96 x97 x98 x99 x100 x101 x102 x103 x104 x105 x106 x107 x108 x109 x110 x111 x112 x113 x114 ua ub uc ud ue w1) := ⟨F.q1,F.q2,F.q3,F.q4,F.q5,F.q6,F.q7,F.q8,F.q9,F.q10,F.q11,F.q12,F.q13,F.q14,F.q15,F.q16,F.q17,F.q18,F.q19,F.q20,F.q21,fun _ => ⟨(show _ from (by simp [hdep] : d_ 20 = true)),(show _ from (by simp [hdep] : d_ 21 = true))⟩,fun h => ⟨(F.q23 h).1,rfl⟩,F.q24,F.q25,F.q26,F.q27,F.q28,F.q29,F.q30,F.q31,F.q32,F.q33,F.q34,F.q35,F.q36,F.q37,F.q38,F.q39,F.q40,F.q41,F.q42,F.q43,F.q44,F.q45,F.q46,F.q47,F.f0,F.f1,F.f2,F.f3,F.f4,F.f5,F.f6,F.f7,F.f8,F.f9,F.f10,F.f12,F.f13,F.f14,F.f15,F.f16,F.f17,F.f18,F.f19,F.f20,F.f21,fun _ => rfl,F.f23,F.f24,F.f25,F.f26,F.f27,F.f28,F.f29,F.f30,F.f31,F.f32,F.f33,F.f34,F.f35,F.f36,F.f37,F.f38,F.f39,F.f40,F.f41,F.f42,F.f43,F.f44,F.f45,F.f46,F.f47,F.st0,F.st1,F.st2,F.st3,F.st4,F.st5,F.st6⟩
      clear F
      go_simp
      exact HK.out _ _ ⟨⟨_,_,_,_,_,_,_,_,_,_,_,_,_,_,_,_,_,_,_,_,_,_,_,_,_,_,_,_,_,_,_,_,_,_,_,_,_,_,_,_,_,_,_,_,_,_,_,_,_,_,_,_,_⟩,rfl,HF.out⟩
    · obtain rfl := F.f20 (by simp [hdep])
      obtain rfl := F.f22 (by simp [hdep])
      have HF : Hid (alive9F av cv pb S0 S1 S2 S3 S4 S5 S6 (upd d_ 23) x67 x68 x69 x70 x71 x72 x73 x74 x75 x76 x77 x78 x79 x80 x81 x82 x83 x84 x85 x86 (.bool false) x88 (.bool false) (.bool false) x91 x92 x93 x94 x95 x96 x97 x98 x99 x100 x101 x102 x103 x104 x105 x106 x107 x108 x109 x110 x111 x112 x113 x114 ua ub uc ud ue w1) := ⟨F.q1,F.q2,F.q3,F.q4,F.q5,F.q6,F.q7,F.q8,F.q9,F.q10,F.q11,F.q12,F.q13,F.q14,F.q15,F.q16,F.q17,F.q18,F.q19,F.q20,F.q21,F.q22,fun _ => ⟨(show _ from (by simp [hdep] : d_ 20 = true)),(show _ from (by simp [hdep] : d_ 22 = true))⟩,fun h => ⟨(F.q24 h).1,rfl⟩,F.q25,F.q26,F.q27,F.q28,F.q29,F.q30,F.q31,F.q32,F.q33,F.q34,F.q35,F.q36,F.q37,F.q38,F.q39,F.q40,F.q41,F.q42,F.q43,F.q44,F.q45,F.q46,F.q47,F.f0,F.f1,F.f2,F.f3,F.f4,F.f5,F.f6,F.f7,F.f8,F.f9,F.f10,F.f12,F.f13,F.f14,F.f15,F.f16,F.f17,F.f18,F.f19,F.f20,F.f21,F.f22,fun _ => rfl,F.f24,F.f25,F.f26,F.f27,F.f28,F.f29,F.f30,F.f31,F.f32,F.f33,F.f34,F.f35,F.f36,F.f37,F.f38,F.f39,F.f40,F.f41,F.f42,F.f43,F.f44,F.f45,F.f46,F.f47,F.st0,F.st1,F.st2,F.st3,F.st4,F.st5,F.st6⟩
      clear F
      go_simp
      exact HK.out _ _ ⟨⟨_,_,_,_,_,_,_,_,_,_,_,_,_,_,_,_,_,_,_,_,_,_,_,_,_,_,_,_,_,_,_,_,_,_,_,_,_,_,_,_,_,_,_,_,_,_,_,_,_,_,_,_,_⟩,rfl,HF.out⟩
    · obtain rfl := F.f23 (by simp [hdep])
      have HF : Hid (alive9F av cv pb S0 S1 S2 S3 S4 S5 S6 (upd d_ 24) x67 x68 x69 x70 x71 x72 x73 x74 x75 x76 x77 x78 x79 x80 x81 x82 x83 x84 x85 x86 x87 x88 x89 (.bool false) (.bool false) x92 x93 x94 x95 x96 x97 x98 x99 x100 x101 x102 x103 x104 x105 x106 x107 x108 x109 x110 x111 x112 x113 x114 ua ub uc ud ue w1) := ⟨F.q1,F.q2,F.q3,F.q4,F.q5,F.q6,F.q7,F.q8,F.q9,F.q10,F.q11,F.q12,F.q13,F.q14,F.q15,F.q16,F.q17,F.q18,F.q19,F.q20,F.q21,F.q22,F.q23,fun _ => ⟨(show _ from (by simp [hdep] : d_ 20 = true)),(show _ from (by simp [hdep] : d_ 23 = true))⟩,fun h => rfl,fun h => ⟨rfl,(F.q26 h).2⟩,fun h => ⟨rfl,(F.q27 h).2⟩,fun h => ⟨rfl,(F.q28 h).2⟩,F.q29,F.q30,F.q31,F.q32,F.q33,F.q34,F.q35,F.q36,F.q37,F.q38,F.q39,F.q40,F.q41,F.q42,F.q43,F.q44,F.q45,F.q46,F.q47,F.f0,F.f1,F.f2,F.f3,F.f4,F.f5,F.f6,F.f7,F.f8,F.f9,F.f10,F.f12,F.f13,F.f14,F.f15,F.f16,F.f17,F.f18,F.f19,F.f20,F.f21,F.f22,F.f23,fun _ => rfl,F.f25,F.f26,F.f27,F.f28,F.f29,F.f30,F.f31,F.f32,F.f33,F.f34,F.f35,F.f36,F.f37,F.f38,F.f39,F.f40,F.f41,F.f42,F.f43,F.f44,F.f45,F.f46,F.f47,F.st0,F.st1,F.st2,F.st3,F.st4,F.st5,F.st6⟩
      clear F
      go_simp
      exact HK.out _ _ ⟨⟨_,_,_,_,_,_,_,_,_,_,_,_,_,_,_,_,_,_,_,_,_,_,_,_,_,_,_,_,_,_,_,_,_,_,_,_,_,_,_,_,_,_,_,_,_,_,_,_,_,_,_,_,_⟩,rfl,HF.out⟩
    · obtain rfl := F.f24 (by simp [hdep])
      have HF : Hid (alive9F av cv pb S0 S1 S2 S3 S4 S5 S6 (upd d_ 25) x67 x68 x69 x70 x71 x72 x73 x74 x75 x76 x77 x78 x79 x80 x81 x82 x83 x84 x85 x86 x87 x88 x89 x90 (.bool false) (.int .i64 0) x93 x94 x95 x96 x97 x98 x99 x100 x101 x102 x103 x104 x105 x106 x107 x108 x109 x110 x111 x112 x113 x114 ua ub uc ud ue w1) := ⟨F.q1,F.q2,F.q3,F.q4,F.q5,F.q6,F.q7,F.q8,F.q9,F.q10,F.q11,F.q12,F.q13,F.q14,F.q15,F.q16,F.q17,F.q18,F.q19,F.q20,F.q21,F.q22,F.q23,F.q24,fun _ => (show _ from (by simp [hdep] : d_ 24 = true)),fun h => ⟨(F.q26 h).1,rfl⟩,F.q27,F.q28,F.q29,F.q30,F.q31,F.q32,F.q33,F.q34,F.q35,F.q36,F.q37,F.q38,F.q39,F.q40,F.q41,F.q42,F.q43,F.q44,F.q45,F.q46,F.q47,F.f0,F.f1,F.f2,F.f3,F.f4,F.f5,F.f6,F.f7,F.f8,F.f9,F.f10,F.f12,F.f13,F.f14,F.f15,F.f16,F.f17,F.f18,F.f19,F.f20,F.f21,F.f22,F.f23,F.f24,fun _ => rfl,F.f26,F.f27,F.f28,F.f29,F.f30,F.f31,F.f32,F.f33,F.f34,F.f35,F.f36,F.f37,F.f38,F.f39,F.f40,F.f41,F.f42,F.f43,F.f44,F.f45,F.f46,F.f47,F.st0,F.st1,F.st2,F.st3,F.st4,F.st5,F.st6⟩
      clear F
      go_simp
      exact HK.out _ _ ⟨⟨_,_,_,_,_,_,_,_,_,_,_,_,_,_,_,_,_,_,_,_,_,_,_,_,_,_,_,_,_,_,_,_,_,_,_,_,_,_,_,_,_,_,_,_,_,_,_,_,_,_,_,_,_⟩,rfl,HF.out⟩
    · obtain rfl := F.f24 (by simp [hdep])
      obtain rfl := F.f25 (by simp [hdep])
      have HF : Hid (alive9F av cv pb S0 S1 S2 S3 S4 S5 S6 (upd d_ 26) x67 x68 x69 x70 x71 x72 x73 x74 x75 x76 x77 x78 x79 x80 x81 x82 x83 x84 x85 x86 x87 x88 x89 x90 (.bool false) (.int .i64 0) (.bool false) x94 x95 x96 x97 x98 x99 x100 x101 x102 x103 x104 x105 x106 x107 x108 x109 x110 x111 x112 x113 x114 ua ub uc ud ue w1) := ⟨F.q1,F.q2,F.q3,F.q4,F.q5,F.q6,F.q7,F.q8,F.q9,F.q10,F.q11,F.q12,F.q13,F.q14,F.q15,F.q16,F.q17,F.q18,F.q19,F.q20,F.q21,F.q22,F.q23,F.q24,F.q25,fun _ => ⟨(show _ from (by simp [hdep] : d_ 24 = true)),(show _ from (by simp [hdep] : d_ 25 = true))⟩,fun h => ⟨(F.q27 h).1,rfl⟩,F.q28,F.q29,F.q30,F.q31,F.q32,F.q33,F.q34,F.q35,F.q36,F.q37,F.q38,F.q39,F.q40,F.q41,F.q42,F.q43,F.q44,F.q45,F.q46,F.q47,F.f0,F.f1,F.f2,F.f3,F.f4,F.f5,F.f6,F.f7,F.f8,F.f9,F.f10,F.f12,F.f13,F.f14,F.f15,F.f16,F.f17,F.f18,F.f19,F.f20,F.f21,F.f22,F.f23,F.f24,F.f25,fun _ => rfl,F.f27,F.f28,F.f29,F.f30,F.f31,F.f32,F.f33,F.f34,F.f35,F.f36,F.f37,F.f38,F.f39,F.f40,F.f41,F.f42,F.f43,F.f44,F.f45,F.f46,F.f47,F.st0,F.st1,F.st2,F.st3,F.st4,F.st5,F.st6⟩
      clear F
      go_simp
      exact HK.out _ _ ⟨⟨_,_,_,_,_,_,_,_,_,_,_,_,_,_,_,_,_,_,_,_,_,_,_,_,_,_,_,_,_,_,_,_,_,_,_,_,_,_,_,_,_,_,_,_,_,_,_,_,_,_,_,_,_⟩,rfl,HF.out⟩
    · obtain rfl := F.f24 (by simp [hdep])
      obtain rfl := F.f26 (by simp [hdep])
      have HF : Hid (alive9F av cv pb S0 S1 S2 S3 S4 S5 S6 (upd d_ 27) x67 x68 x69 x70 x71 x72 x73 x74 x75 x76 x77 x78 x79 x80 x81 x82 x83 x84 x85 x86 x87 x88 x89 x90 (.bool false) x92 (.bool false) (.bool false) x95 x96 x97 x98 x99 x100 x101 x102 x103 x104 x105 x106 x107 x108 x109 x110 x111 x112 x113 x114 ua ub uc ud ue w1) := ⟨F.q1,F.q2,F.q3,F.q4,F.q5,F.q6,F.q7,F.q8,F.q9,F.q10,F.q11,F.q12,F.q13,F.q14,F.q15,F.q16,F.q17,F.q18,F.q19,F.q20,F.q21,F.q22,F.q23,F.q24,F.q25,F.q26,fun _ => ⟨(show _ from (by simp [hdep] : d_ 24 = true)),(show _ from (by simp [hdep] : d_ 26 = true))⟩,fun h => ⟨(F.q28 h).1,rfl⟩,F.q29,F.q30,F.q31,F.q32,F.q33,F.q34,F.q35,F.q36,F.q37,F.q38,F.q39,F.q40,F.q41,F.q42,F.q43,F.q44,F.q45,F.q46,F.q47,F.f0,F.f1,F.f2,F.f3,F.f4,F.f5,F.f6,F.f7,F.f8,F.f9,F.f10,F.f12,F.f13,F.f14,F.f15,F.f16,F.f17,F.f18,F.f19,F.f20,F.f21,F.f22,F.f23,F.f24,F.f25,F.f26,fun _ => rfl,F.f28,F.f29,F.f30,F.f31,F.f32,F.f33,F.f34,F.f35,F.f36,F.f37,F.f38,F.f39,F.f40,F.f41,F.f42,F.f43,F.f44,F.f45,F.f46,F.f47,F.st0,F.st1,F.st2,F.st3,F.st4,F.st5,F.st6⟩
      clear F
      go_simp
      exact HK.out _ _ ⟨⟨_,_,_,_,_,_,_,_,_,_,_,_,_,_,_,_,_,_,_,_,_,_,_,_,_,_,_,_,_,_,_,_,_,_,_,_,_,_,_,_,_,_,_,_,_,_,_,_,_,_,_,_,_⟩,rfl,HF.out⟩
    · obtain rfl := F.f27 (by simp [hdep])
      have HF : Hid (alive9F av cv pb S0 S1 S2 S3 S4 S5 S6 (upd d_ 28) x67 x68 x69 x70 x71 x72 x73 x74 x75 x76 x77 x78 x79 x80 x81 x82 x83 x84 x85 x86 x87 x88 x89 x90 x91 x92 x93 (.bool false) (.bool false) x96 x97 x98 x99 x100 x101 x102 x103 x104 x105 x106 x107 x108 x109 x110 x111 x112 x113 x114 ua ub uc ud ue w1) := ⟨F.q1,F.q2,F.q3,F.q4,F.q5,F.q6,F.q7,F.q8,F.q9,F.q10,F.q11,F.q12,F.q13,F.q14,F.q15,F.q16,F.q17,F.q18,F.q19,F.q20,F.q21,F.q22,F.q23,F.q24,F.q25,F.q26,F.q27,fun _ => ⟨(show _ from (by simp [hdep] : d_ 24 = true)),(show _ from (by simp [hdep] : d_ 27 = true))⟩,fun h => rfl,fun h => ⟨rfl,(F.q30 h).2⟩,fun h => ⟨rfl,(F.q31 h).2⟩,fun h => ⟨rfl,(F.q32 h).2⟩,F.q33,F.q34,F.q35,F.q36,F.q37,F.q38,F.q39,F.q40,F.q41,F.q42,F.q43,F.q44,F.q45,F.q46,F.q47,F.f0,F.f1,F.f2,F.f3,F.f4,F.f5,F.f6,F.f7,F.f8,F.f9,F.f10,F.f12,F.f13,F.f14,F.f15,F.f16,F.f17,F.f18,F.f19,F.f20,F.f21,F.f22,F.f23,F.f24,F.f25,F.f26,F.f27,fun _ => rfl,F.f29,F.f30,F.f31,F.f32,F.f33,F.f34,F.f35,F.f36,F.f37,F.f38,F.f39,F.f40,F.f41,F.f42,F.f43,F.f44,F.f45,F.f46,F.f47,F.st0,F.st1,F.st2,F.st3,F.st4,F.st5,F.st6⟩
      clear F
      go_simp
      exact HK.out _ _ ⟨⟨_,_,_,_,_,_,_,_,_,_,_,_,_,_,_,_,_,_,_,_,_,_,_,_,_,_,_,_,_,_,_,_,_,_,_,_,_,_,_,_,_,_,_,_,_,_,_,_,_,_,_,_,_⟩,rfl,HF.out⟩
    · obtain rfl := F.f28 (by simp [hdep])
      have HF : Hid (alive9F av cv pb S0 S1 S2 S3 S4 S5 S6 (upd d_ 29) x67 x68 x69 x70 x71 x72 x73 x74 x75 x76 x77 x78 x79 x80 x81 x82 x83 x84 x85 x86 x87 x88 x89 x90 x91 x92 x93 x94 (.bool false) (.bool true) x97 x98 x99 x100 x101 x102 x103 x104 x105 x106 x107 x108 x109 x110 x111 x112 x113 x114 ua ub uc ud ue w1) := ⟨F.q1,F.q2,F.q3,F.q4,F.q5,F.q6,F.q7,F.q8,F.q9,F.q10,F.q11,F.q12,F.q13,F.q14,F.q15,F.q16,F.q17,F.q18,F.q19,F.q20,F.q21,F.q22,F.q23,F.q24,F.q25,F.q26,F.q27,F.q28,fun _ => (show _ from (by simp [hdep] : d_ 28 = true)),fun h => ⟨(F.q30 h).1,rfl⟩,F.q31,F.q32,F.q33,F.q34,F.q35,F.q36,F.q37,F.q38,F.q39,F.q40,F.q41,F.q42,F.q43,F.q44,F.q45,F.q46,F.q47,F.f0,F.f1,F.f2,F.f3,F.f4,F.f5,F.f6,F.f7,F.f8,F.f9,F.f10,F.f12,F.f13,F.f14,F.f15,F.f16,F.f17,F.f18,F.f19,F.f20,F.f21,F.f22,F.f23,F.f24,F.f25,F.f26,F.f27,F.f28,fun _ => rfl,F.f30,F.f31,F.f32,F.f33,F.f34,F.f35,F.f36,F.f37,F.f38,F.f39,F.f40,F.f41,F.f42,F.f43,F.f44,F.f45,F.f46,F.f47,F.st0,F.st1,F.st2,F.st3,F.st4,F.st5,F.st6⟩
      clear F
      go_simp
      exact HK.out _ _ ⟨⟨_,_,_,_,_,_,_,_,_,_,_,_,_,_,_,_,_,_,_,_,_,_,_,_,_,_,_,_,_,_,_,_,_,_,_,_,_,_,_,_,_,_,_,_,_,_,_,_,_,_,_,_,_⟩,rfl,HF.out⟩
    · obtain rfl := F.f28 (by simp [hdep])
      obtain rfl := F.f29 (by simp [hdep])
      have HF : Hid (alive9F av cv pb S0 S1 S2 S3 S4 S5 S6 (upd d_ 30) x67 x68 x69 x70 x71 x72 x73 x74 x75 x76 x77 x78 x79 x80 x81 x82 x83 x84 x85 x86 x87 x88 x89 x90 x91 x92 x93 x94 (.bool false) (.bool true) (.bool false) x98 x99 x100 x101 x102 x103 x104 x105 x106 x107 x108 x109 x110 x111 x112 x113 x114 ua ub uc ud ue w1) := ⟨F.q1,F.q2,F.q3,F.q4,F.q5,F.q6,F.q7,F.q8,F.q9,F.q10,F.q11,F.q12,F.q13,F.q14,F.q15,F.q16,F.q17,F.q18,F.q19,F.q20,F.q21,F.q22,F.q23,F.q24,F.q25,F.q26,F.q27,F.q28,F.q29,fun _ => ⟨(show _ from (by simp [hdep] : d_ 28 = true)),(show _ from (by simp [hdep] : d_ 29 = true))⟩,fun h => ⟨(F.q31 h).1,rfl⟩,F.q32,F.q33,F.q34,F.q35,F.q36,F.q37,F.q38,F.q39,F.q40,F.q41,F.q42,F.q43,F.q44,F.q45,F.q46,F.q47,F.f0,F.f1,F.f2,F.f3,F.f4,F.f5,F.f6,F.f7,F.f8,F.f9,F.f10,F.f12,F.f13,F.f14,F.f15,F.f16,F.f17,F.f18,F.f19,F.f20,F.f21,F.f22,F.f23,F.f24,F.f25,F.f26,F.f27,F.f28,F.f29,fun _ => rfl,F.f31,F.f32,F.f33,F.f34,F.f35,F.f36,F.f37,F.f38,F.f39,F.f40,F.f41,F.f42,F.f43,F.f44,F.f45,F.f46,F.f47,F.st0,F.st1,F.st2,F.st3,F.st4,F.st5,F.st6⟩
      clear F
      go_simp
      exact HK.out _ _ ⟨⟨_,_,_,_,_,_,_,_,_,_,_,_,_,_,_,_,_,_,_,_,_,_,_,_,_,_,_,_,_,_,_,_,_,_,_,_,_,_,_,_,_,_,_,_,_,_,_,_,_,_,_,_,_⟩,rfl,HF.out⟩
    · obtain rfl := F.f28 (by simp [hdep])
      obtain rfl := F.f30 (by simp [hdep])
      have HF : Hid (alive9F av cv pb S0 S1 S2 S3 S4 S5 S6 (upd d_ 31) x67 x68 x69 x70 x71 x72 x73 x74 x75 x76 x77 x78 x79 x80 x81 x82 x83 x84 x85 x86 x87 x88 x89 x90 x91 x92 x93 x94 (.bool false) x96 (.bool false) (.bool false) x99 x100 x101 x102 x103 x104 x105 x106 x107 x108 x109 x110 x111 x112 x113 x114 ua ub uc ud ue w1) := ⟨F.q1,F.q2,F.q3,F.q4,F.q5,F.q6,F.q7,F.q8,F.q9,F.q10,F.q11,F.q12,F.q13,F.q14,F.q15,F.q16,F.q17,F.q18,F.q19,F.q20,F.q21,F.q22,F.q23,F.q24,F.q25,F.q26,F.q27,F.q28,F.q29,F.q30,fun _ => ⟨(show _ from (by simp [hdep] : d_ 28 = true)),(show _ from (by simp [hdep] : d_ 30 = true))⟩,fun h => ⟨(F.q32 h).1,rfl⟩,F.q33,F.q34,F.q35,F.q36,F.q37,F.q38,F.q39,F.q40,F.q41,F.q42,F.q43,F.q44,F.q45,F.q46,F.q47,F.f0,F.f1,F.f2,F.f3,F.f4,F.f5,F.f6,F.f7,F.f8,F.f9,F.f10,F.f12,F.f13,F.f14,F.f15,F.f16,F.f17,F.f18,F.f19,F.f20,F.f21,F.f22,F.f23,F.f24,F.f25,F.f26,F.f27,F.f28,F.f29,F.f30,fun _ => rfl,F.f32,F.f33,F.f34,F.f35,F.f36,F.f37,F.f38,F.f39,F.f40,F.f41,F.f42,F.f43,F.f44,F.f45,F.f46,F.f47,F.st0,F.st1,F.st2,F.st3,F.st4,F.st5,F.st6⟩
      clear F
      go_simp
      exact HK.out _ _ ⟨⟨_,_,_,_,_,_,_,_,_,_,_,_,_,_,_,_,_,_,_,_,_,_,_,_,_,_,_,_,_,_,_,_,_,_,_,_,_,_,_,_,_,_,_,_,_,_,_,_,_,_,_,_,_⟩,rfl,HF.out⟩
    · obtain rfl := F.f31 (by simp [hdep])
      have HF : Hid (alive9F av cv pb S0 S1 S2 S3 S4 S5 S6 (upd d_ 32) x67 x68 x69 x70 x71 x72 x73 x74 x75 x76 x77 x78 x79 x80 x81 x82 x83 x84 x85 x86 x87 x88 x89 x90 x91 x92 x93 x94 x95 x96 x97 (.bool false) (.bool false) x100 x101 x102 x103 x104 x105 x106 x107 x108 x109 x110 x111 x112 x113 x114 ua ub uc ud ue w1) := ⟨F.q1,F.q2,F.q3,F.q4,F.q5,F.q6,F.q7,F.q8,F.q9,F.q10,F.q11,F.q12,F.q13,F.q14,F.q15,F.q16,F.q17,F.q18,F.q19,F.q20,F.q21,F.q22,F.q23,F.q24,F.q25,F.q26,F.q27,F.q28,F.q29,F.q30,F.q31,fun _ => ⟨(show _ from (by simp [hdep] : d_ 28 = true)),(show _ from (by simp [hdep] : d_ 31 = true))⟩,fun h => rfl,fun h => ⟨rfl,(F.q34 h).2⟩,fun h => ⟨rfl,(F.q35 h).2⟩,fun h => ⟨rfl,(F.q36 h).2⟩,F.q37,F.q38,F.q39,F.q40,F.q41,F.q42,F.q43,F.q44,F.q45,F.q46,F.q47,F.f0,F.f1,F.f2,F.f3,F.f4,F.f5,F.f6,F.f7,F.f8,F.f9,F.f10,F.f12,F.f13,F.f14,F.f15,F.f16,F.f17,F.f18,F.f19,F.f20,F.f21,F.f22,F.f23,F.f24,F.f25,F.f26,F.f27,F.f28,F.f29,F.f30,F.f31,fun _ => rfl,F.f33,F.f34,F.f35,F.f36,F.f37,F.f38,F.f39,F.f40,F.f41,F.f42,F.f43,F.f44,F.f45,F.f46,F.f47,F.st0,F.st1,F.st2,F.st3,F.st4,F.st5,F.st6⟩
      clear F
      go_simp
      exact HK.out _ _ ⟨⟨_,_,_,_,_,_,_,_,_,_,_,_,_,_,_,_,_,_,_,_,_,_,_,_,_,_,_,_,_,_,_,_,_,_,_,_,_,_,_,_,_,_,_,_,_,_,_,_,_,_,_,_,_⟩,rfl,HF.out⟩
    · obtain rfl := F.f32 (by simp [hdep])
      have HF : Hid (alive9F av cv pb S0 S1 S2 S3 S4 S5 S6 (upd d_ 33) x67 x68 x69 x70 x71 x72 x73 x74 x75 x76 x77 x78 x79 x80 x81 x82 x83 x84 x85 x86 x87 x88 x89 x90 x91 x92 x93 x94 x95 x96 x97 x98 (.bool false) (.int .i64 0) x101 x102 x103 x104 x105 x106 x107 x108 x109 x110 x111 x112 x113 x114 ua ub uc ud ue w1) := ⟨F.q1,F.q2,F.q3,F.q4,F.q5,F.q6,F.q7,F.q8,F.q9,F.q10,F.q11,F.q12,F.q13,F.q14,F.q15,F.q16,F.q17,F.q18,F.q19,F.q20,F.q21,F.q22,F.q23,F.q24,F.q25,F.q26,F.q27,F.q28,F.q29,F.q30,F.q31,F.q32,fun _ => (show _ from (by simp [hdep] : d_ 32 = true)),fun h => ⟨(F.q34 h).1,rfl⟩,F.q35,F.q36,F.q37,F.q38,F.q39,F.q40,F.q41,F.q42,F.q43,F.q44,F.q45,F.q46,F.q47,F.f0,F.f1,F.f2,F.f3,F.f4,F.f5,F.f6,F.f7,F.f8,F.f9,F.f10,F.f12,F.f13,F.f14,F.f15,F.f16,F.f17,F.f18,F.f19,F.f20,F.f21,F.f22,F.f23,F.f24,F.f25,F.f26,F.f27,F.f28,F.f29,F.f30,F.f31,F.f32,fun _ => rfl,F.f34,F.f35,F.f36,F.f37,F.f38,F.f39,F.f40,F.f41,F.f42,F.f43,F.f44,F.f45,F.f46,F.f47,F.st0,F.st1,F.st2,F.st3,F.st4,F.st5,F.st6⟩
      clear F
      go_simp
      exact HK.out _ _ ⟨⟨_,_,_,_,_,_,_,_,_,_,_,_,_,_,_,_,_,_,_,_,_,_,_,_,_,_,_,_,_,_,_,_,_,_,_,_,_,_,_,_,_,_,_,_,_,_,_,_,_,_,_,_,_⟩,rfl,HF.out⟩
    · obtain rfl := F.f32 (by simp [hdep])
      obtain rfl := F.f33 (by simp [hdep])
      have HF : Hid (alive9F av cv pb S0 S1 S2 S3 S4 S5 S6 (upd d_ 34) x67 x68 x69 x70 x71 x72 x73 x74 x75 x76 x77 x78 x79 x80 x81 x82 x83 x84 x85 x86 x87 x88 x89 x90 x91 x92 x93 x94 x95 x96 x97 x98 (.bool false) (.int .i64 0) (.bool false) x102 x103 x104 x105 x106 x107 x108 x109 x110 x111 x112 x113 x114 ua ub uc ud ue w1) := ⟨F.q1,F.q2,F.q3,F.q4,F.q5,F.q6,F.q7,F.q8,F.q9,F.q10,F.q11,F.q12,F.q13,F.q14,F.q15,F.q16,F.q17,F.q18,F.q19,F.q20,F.q21,F.q22,F.q23,F.q24,F.q25,F.q26,F.q27,F.q28,F.q29,F.q30,F.q31,F.q32,F.q33,fun _ => ⟨(show _ from (by simp [hdep] : d_ 32 = true)),(show _ from (by simp [hdep] : d_ 33 = true))⟩,fun h => ⟨(F.q35 h).1,rfl⟩,F.q36,F.q37,F.q38,F.q39,F.q40,F.q41,F.q42,F.q43,F.q44,F.q45,F.q46,F.q47,F.f0,F.f1,F.f2,F.f3,F.f4,F.f5,F.f6,F.f7,F.f8,F.f9,F.f10,F.f12,F.f13,F.f14,F.f15,F.f16,F.f17,F.f18,F.f19,F.f20,F.f21,F.f22,F.f23,F.f24,F.f25,F.f26,F.f27,F.f28,F.f29,F.f30,F.f31,F.f32,F.f33,fun _ => rfl,F.f35,F.f36,F.f37,F.f38,F.f39,F.f40,F.f41,F.f42,F.f43,F.f44,F.f45,F.f46,F.f47,F.st0,F.st1,F.st2,F.st3,F.st4,F.st5,F.st6⟩
      clear F
      go_simp
      exact HK.out _ _ ⟨⟨_,_,_,_,_,_,_,_,_,_,_,_,_,_,_,_,_,_,_,_,_,_,_,_,_,_,_,_,_,_,_,_,_,_,_,_,_,_,_,_,_,_,_,_,_,_,_,_,_,_,_,_,_⟩,rfl,HF.out⟩
    · obtain rfl := F.f32 (by simp [hdep])
      obtain rfl := F.f34 (by simp [hdep])
      have HF : Hid (alive9F av cv pb S0 S1 S2 S3 S4 S5 S6 (upd d_ 35) x67 x68 x69 x70 x71 x72 x73 x74 x75 x76 x77 x78 x79 x80 x81 x82 x83 x84 x85 x86 x87 x88 x89 x90 x91 x92 x93 x94 x95 x96 x97 x98 (.bool false) x100 (.bool false) (.bool false) x103 x104 x105 x106 x107 x108 x109 x110 x111 x112 x113 x114 ua ub uc ud ue w1) := ⟨F.q1,F.q2,F.q3,F.q4,F.q5,F.q6,F.q7,F.q8,F.q9,F.q10,F.q11,F.q12,F.q13,F.q14,F.q15,F.q16,F.q17,F.q18,F.q19,F.q20,F.q21,F.q22,F.q23,F.q24,F.q25,F.q26,F.q27,F.q28,F.q29,F.q30,F.q31,F.q32,F.q33,F.q34,fun _ => ⟨(show _ from (by simp [hdep] : d_ 32 = true)),(show _ from (by simp [hdep] : d_ 34 = true))⟩,fun h => ⟨(F.q36 h).1,rfl⟩,F.q37,F.q38,F.q39,F.q40,F.q41,F.q42,F.q43,F.q44,F.q45,F.q46,F.q47,F.f0,F.f1,F.f2,F.f3,F.f4,F.f5,F.f6,F.f7,F.f8,F.f9,F.f10,F.f12,F.f13,F.f14,F.f15,F.f16,F.f17,F.f18,F.f19,F.f20,F.f21,F.f22,F.f23,F.f24,F.f25,F.f26,F.f27,F.f28,F.f29,F.f30,F.f31,F.f32,F.f33,F.f34,fun _ => rfl,F.f36,F.f37,F.f38,F.f39,F.f40,F.f41,F.f42,F.f43,F.f44,F.f45,F.f46,F.f47,F.st0,F.st1,F.st2,F.st3,F.st4,F.st5,F.st6⟩
      clear F
      go_simp
      exact HK.out _ _ ⟨⟨_,_,_,_,_,_,_,_,_,_,_,_,_,_,_,_,_,_,_,_,_,_,_,_,_,_,_,_,_,_,_,_,_,_,_,_,_,_,_,_,_,_,_,_,_,_,_,_,_,_,_,_,_⟩,rfl,HF.out⟩
    · obtain rfl := F.f35 (by simp [hdep])
      have HF : Hid (alive9F av cv pb S0 S1 S2 S3 S4 S5 S6 (upd d_ 36) x67 x68 x69 x70 x71 x72 x73 x74 x75 x76 x77 x78 x79 x80 x81 x82 x83 x84 x85 x86 x87 x88 x89 x90 x91 x92 x93 x94 x95 x96 x97 x98 x99 x100 x101 (.bool false) (.bool false) x104 x105 x106 x107 x108 x109 x110 x111 x112 x113 x114 ua ub uc ud ue w1) := ⟨F.q1,F.q2,F.q3,F.q4,F.q5,F.q6,F.q7,F.q8,F.q9,F.q10,F.q11,F.q12,F.q13,F.q14,F.q15,F.q16,F.q17,F.q18,F.q19,F.q20,F.q21,F.q22,F.q23,F.q24,F.q25,F.q26,F.q27,F.q28,F.q29,F.q30,F.q31,F.q32,F.q33,F.q34,F.q35,fun _ => ⟨(show _ from (by simp [hdep] : d_ 32 = true)),(show _ from (by simp [hdep] : d_ 35 = true))⟩,fun h => rfl,fun h => ⟨rfl,(F.q38 h).2⟩,fun h => ⟨rfl,(F.q39 h).2⟩,fun h => ⟨rfl,(F.q40 h).2⟩,F.q41,F.q42,F.q43,F.q44,F.q45,F.q46,F.q47,F.f0,F.f1,F.f2,F.f3,F.f4,F.f5,F.f6,F.f7,F.f8,F.f9,F.f10,F.f12,F.f13,F.f14,F.f15,F.f16,F.f17,F.f18,F.f19,F.f20,F.f21,F.f22,F.f23,F.f24,F.f25,F.f26,F.f27,F.f28,F.f29,F.f30,F.f31,F.f32,F.f33,F.f34,F.f35,fun _ => rfl,F.f37,F.f38,F.f39,F.f40,F.f41,F.f42,F.f43,F.f44,F.f45,F.f46,F.f47,F.st0,F.st1,F.st2,F.st3,F.st4,F.st5,F.st6⟩
      clear F
      go_simp
      exact HK.out _ _ ⟨⟨_,_,_,_,_,_,_,_,_,_,_,_,_,_,_,_,_,_,_,_,_,_,_,_,_,_,_,_,_,_,_,_,_,_,_,_,_,_,_,_,_,_,_,_,_,_,_,_,_,_,_,_,_⟩,rfl,HF.out⟩
    · obtain rfl := F.f36 (by simp [hdep])
      have HF : Hid (alive9F av cv pb S0 S1 S2 S3 S4 S5 S6 (upd d_ 37) x67 x68 x69 x70 x71 x72 x73 x74 x75 x76 x77 x78 x79 x80 x81 x82 x83 x84 x85 x86 x87 x88 x89 x90 x91 x92 x93 x94 x95 x96 x97 x98 x99 x100 x101 x102 (.bool false) (.int .i64 3) x105 x106 x107 x108 x109 x110 x111 x112 x113 x114 ua ub uc ud ue w1) := ⟨F.q1,F.q2,F.q3,F.q4,F.q5,F.q6,F.q7,F.q8,F.q9,F.q10,F.q11,F.q12,F.q13,F.q14,F.q15,F.q16,F.q17,F.q18,F.q19,F.q20,F.q21,F.q22,F.q23,F.q24,F.q25,F.q26,F.q27,F.q28,F.q29,F.q30,F.q31,F.q32,F.q33,F.q34,F.q35,F.q36,fun _ => (show _ from (by simp [hdep] : d_ 36 = true)),fun h => ⟨(F.q38 h).1,rfl⟩,F.q39,F.q40,F.q41,F.q42,F.q43,F.q44,F.q45,F.q46,F.q47,F.f0,F.f1,F.f2,F.f3,F.f4,F.f5,F.f6,F.f7,F.f8,F.f9,F.f10,F.f12,F.f13,F.f14,F.f15,F.f16,F.f17,F.f18,F.f19,F.f20,F.f21,F.f22,F.f23,F.f24,F.f25,F.f26,F.f27,F.f28,F.f29,F.f30,F.f31,F.f32,F.f33,F.f34,F.f35,F.f36,fun _ => rfl,F.f38,F.f39,F.f40,F.f41,F.f42,F.f43,F.f44,F.f45,F.f46,F.f47,F.st0,F.st1,F.st2,F.st3,F.st4,F.st5,F.st6⟩
      clear F
      go_simp
      exact HK.out _ _ ⟨⟨_,_,_,_,_,_,_,_,_,_,_,_,_,_,_,_,_,_,_,_,_,_,_,_,_,_,_,_,_,_,_,_,_,_,_,_,_,_,_,_,_,_,_,_,_,_,_,_,_,_,_,_,_⟩,rfl,HF.out⟩
    · obtain rfl := F.f36 (by simp [hdep])
      obtain rfl := F.f37 (by simp [hdep])
      have HF : Hid (alive9F av cv pb S0 S1 S2 S3 S4 S5 S6 (upd d_ 38) x67 x68 x69 x70 x71 x72 x73 x74 x75 x76 x77 x78 x79 x80 x81 x82 x83 x84 x85 x86 x87 x88 x89 x90 x91 x92 x93 x94 x95 x96 x97 x98 x99 x100 x101 x102 (.bool false) (.int .i64 3) (.bool false) x106 x107 x108 x109 x110 x111 x112 x113 x114 ua ub uc ud ue w1) := ⟨F.q1,F.q2,F.q3,F.q4,F.q5,F.q6,F.q7,F.q8,F.q9,F.q10,F.q11,F.q12,F.q13,F.q14,F.q15,F.q16,F.q17,F.q18,F.q19,F.q20,F.q21,F.q22,F.q23,F.q24,F.q25,F.q26,F.q27,F.q28,F.q29,F.q30,F.q31,F.q32,F.q33,F.q34,F.q35,F.q36,F.q37,fun _ => ⟨(show _ from (by simp [hdep] : d_ 36 = true)),(show _ from (by simp [hdep] : d_ 37 = true))⟩,fun h => ⟨(F.q39 h).1,rfl⟩,F.q40,F.q41,F.q42,F.q43,F.q44,F.q45,F.q46,F.q47,F.f0,F.f1,F.f2,F.f3,F.f4,F.f5,F.f6,F.f7,F.f8,F.f9,F.f10,F.f12,F.f13,F.f14,F.f15,F.f16,F.f17,F.f18,F.f19,F.f20,F.f21,F.f22,F.f23,F.f24,F.f25,F.f26,F.f27,F.f28,F.f29,F.f30,F.f31,F.f32,F.f33,F.f34,F.f35,F.f36,F.f37,fun _ => rfl,F.f39,F.f40,F.f41,F.f42,F.f43,F.f44,F.f45,F.f46,F.f47,F.st0,F.st1,F.st2,F.st3,F.st4,F.st5,F.st6⟩
      clear F
      go_simp
      exact HK.out _ _ ⟨⟨_,_,_,_,_,_,_,_,_,_,_,_,_,_,_,_,_,_,_,_,_,_,_,_,_,_,_,_,_,_,_,_,_,_,_,_,_,_,_,_,_,_,_,_,_,_,_,_,_,_,_,_,_⟩,rfl,HF.out⟩
    · obtain rfl := F.f36 (by simp [hdep])
      obtain rfl := F.f38 (by simp [hdep])
      have HF : Hid (alive9F av cv pb S0 S1 S2 S3 S4 S5 S6 (upd d_ 39) x67 x68 x69 x70 x71 x72 x73 x74 x75 x76 x77 x78 x79 x80 x81 x82 x83 x84 x85 x86 x87 x88 x89 x90 x91 x92 x93 x94 x95 x96 x97 x98 x99 x100 x101 x102 (.bool false) x104 (.bool false) (.bool false) x107 x108 x109 x110 x111 x112 x113 x114 ua ub uc ud ue w1) := ⟨F.q1,F.q2,F.q3,F.q4,F.q5,F.q6,F.q7,F.q8,F.q9,F.q10,F.q11,F.q12,F.q13,F.q14,F.q15,F.q16,F.q17,F.q18,F.q19,F.q20,F.q21,F.q22,F.q23,F.q24,F.q25,F.q26,F.q27,F.q28,F.q29,F.q30,F.q31,F.q32,F.q33,F.q34,F.q35,F.q36,F.q37,F.q38,fun _ => ⟨(show _ from (by simp [hdep] : d_ 36 = true)),(show _ from (by simp [hdep] : d_ 38 = true))⟩,fun h => ⟨(F.q40 h).1,rfl⟩,F.q41,F.q42,F.q43,F.q44,F.q45,F.q46,F.q47,F.f0,F.f1,F.f2,F.f3,F.f4,F.f5,F.f6,F.f7,F.f8,F.f9,F.f10,F.f12,F.f13,F.f14,F.f15,F.f16,F.f17,F.f18,F.f19,F.f20,F.f21,F.f22,F.f23,F.f24,F.f25,F.f26,F.f27,F.f28,F.f29,F.f30,F.f31,F.f32,F.f33,F.f34,F.f35,F.f36,F.f37,F.f38,fun _ => rfl,F.f40,F.f41,F.f42,F.f43,F.f44,F.f45,F.f46,F.f47,F.st0,F.st1,F.st2,F.st3,F.st4,F.st5,F.st6⟩
      clear F
      go_simp
      exact HK.out _ _ ⟨⟨_,_,_,_,_,_,_,_,_,_,_,_,_,_,_,_,_,_,_,_,_,_,_,_,_,_,_,_,_,_,_,_,_,_,_,_,_,_,_,_,_,_,_,_,_,_,_,_,_,_,_,_,_⟩,rfl,HF.out⟩
    · obtain rfl := F.f39 (by simp [hdep])
      have HF : Hid (alive9F av cv pb S0 S1 S2 S3 S4 S5 S6 (upd d_ 40) x67 x68 x69 x70 x71 x72 x73 x74 x75 x76 x77 x78 x79 x80 x81 x82 x83 x84 x85 x86 x87 x88 x89 x90 x91 x92 x93 x94 x95 x96 x97 x98 x99 x100 x101 x102 x103 x104 x105 (.bool false) (.bool false) x108 x109 x110 x111 x112 x113 x114 ua ub uc ud ue w1) := ⟨F.q1,F.q2,F.q3,F.q4,F.q5,F.q6,F.q7,F.q8,F.q9,F.q10,F.q11,F.q12,F.q13,F.q14,F.q15,F.q16,F.q17,F.q18,F.q19,F.q20,F.q21,F.q22,F.q23,F.q24,F.q25,F.q26,F.q27,F.q28,F.q29,F.q30,F.q31,F.q32,F.q33,F.q34,F.q35,F.q36,F.q37,F.q38,F.q39,fun _ => ⟨(show _ from (by simp [hdep] : d_ 36 = true)),(show _ from (by simp [hdep] : d_ 39 = true))⟩,fun h => rfl,fun h => ⟨rfl,(F.q42 h).2⟩,fun h => ⟨rfl,(F.q43 h).2⟩,fun h => ⟨rfl,(F.q44 h).2⟩,F.q45,F.q46,F.q47,F.f0,F.f1,F.f2,F.f3,F.f4,F.f5,F.f6,F.f7,F.f8,F.f9,F.f10,F.f12,F.f13,F.f14,F.f15,F.f16,F.f17,F.f18,F.f19,F.f20,F.f21,F.f22,F.f23,F.f24,F.f25,F.f26,F.f27,F.f28,F.f29,F.f30,F.f31,F.f32,F.f33,F.f34,F.f35,F.f36,F.f37,F.f38,F.f39,fun _ => rfl,F.f41,F.f42,F.f43,F.f44,F.f45,F.f46,F.f47,F.st0,F.st1,F.st2,F.st3,F.st4,F.st5,F.st6⟩
      clear F
      go_simp
      exact HK.out _ _ ⟨⟨_,_,_,_,_,_,_,_,_,_,_,_,_,_,_,_,_,_,_,_,_,_,_,_,_,_,_,_,_,_,_,_,_,_,_,_,_,_,_,_,_,_,_,_,_,_,_,_,_,_,_,_,_⟩,rfl,HF.out⟩
    · obtain rfl := F.f40 (by simp [hdep])
      have HF : Hid (alive9F av cv pb S0 S1 S2 S3 S4 S5 S6 (upd d_ 41) x67 x68 x69 x70 x71 x72 x73 x74 x75 x76 x77 x78 x79 x80 x81 x82 x83 x84 x85 x86 x87 x88 x89 x90 x91 x92 x93 x94 x95 x96 x97 x98 x99 x100 x101 x102 x103 x104 x105 x106 (.bool false) (.int .i64 3) x109 x110 x111 x112 x113 x114 ua ub uc ud ue w1) := ⟨F.q1,F.q2,F.q3,F.q4,F.q5,F.q6,F.q7,F.q8,F.q9,F.q10,F.q11,F.q12,F.q13,F.q14,F.q15,F.q16,F.q17,F.q18,F.q19,F.q20,F.q21,F.q22,F.q23,F.q24,F.q25,F.q26,F.q27,F.q28,F.q29,F.q30,F.q31,F.q32,F.q33,F.q34,F.q35,F.q36,F.q37,F.q38,F.q39,F.q40,fun _ => (show _ from (by simp [hdep] : d_ 40 = true)),fun h => ⟨(F.q42 h).1,rfl⟩,F.q43,F.q44,F.q45,F.q46,F.q47,F.f0,F.f1,F.f2,F.f3,F.f4,F.f5,F.f6,F.f7,F.f8,F.f9,F.f10,F.f12,F.f13,F.f14,F.f15,F.f16,F.f17,F.f18,F.f19,F.f20,F.f21,F.f22,F.f23,F.f24,F.f25,F.f26,F.f27,F.f28,F.f29,F.f30,F.f31,F.f32,F.f33,F.f34,F.f35,F.f36,F.f37,F.f38,F.f39,F.f40,fun _ => rfl,F.f42,F.f43,F.f44,F.f45,F.f46,F.f47,F.st0,F.st1,F.st2,F.st3,F.st4,F.st5,F.st6⟩
      clear F
      go_simp
      exact HK.out _ _ ⟨⟨_,_,_,_,_,_,_,_,_,_,_,_,_,_,_,_,_,_,_,_,_,_,_,_,_,_,_,_,_,_,_,_,_,_,_,_,_,_,_,_,_,_,_,_,_,_,_,_,_,_,_,_,_⟩,rfl,HF.out⟩
    · obtain rfl := F.f40 (by simp [hdep])
      obtain rfl := F.f41 (by simp [hdep])
      have HF : Hid (alive9F av cv pb S0 S1 S2 S3 S4 S5 S6 (upd d_ 42) x67 x68 x69 x70 x71 x72 x73 x74 x75 x76 x77 x78 x79 x80 x81 x82 x83 x84 x85 x86 x87 x88 x89 x90 x91 x92 x93 x94 x95 x96 x97 x98 x99 x100 x101 x102 x103 x104 x105 x106 (.bool false) (.int .i64 3) (.bool false) x110 x111 x112 x113 x114 ua ub uc ud ue w1) := ⟨F.q1,F.q2,F.q3,F.q4,F.q5,F.q6,F.q7,F.q8,F.q9,F.q10,F.q11,F.q12,F.q13,F.q14,F.q15,F.q16,F.q17,F.q18,F.q19,F.q20,F.q21,F.q22,F.q23,F.q24,F.q25,F.q26,F.q27,F.q28,F.q29,F.q30,F.q31,F.q32,F.q33,F.q34,F.q35,F.q36,F.q37,F.q38,F.q39,F.q40,F.q41,fun _ => ⟨(show _ from (by simp [hdep] : d_ 40 = true)),(show _ from (by simp [hdep] : d_ 41 = true))⟩,fun h => ⟨(F.q43 h).1,rfl⟩,F.q44,F.q45,F.q46,F.q47,F.f0,F.f1,F.f2,F.f3,F.f4,F.f5,F.f6,F.f7,F.f8,F.f9,F.f10,F.f12,F.f13,F.f14,F.f15,F.f16,F.f17,F.f18,F.f19,F.f20,F.f21,F.f22,F.f23,F.f24,F.f25,F.f26,F.f27,F.f28,F.f29,F.f30,F.f31,F.f32,F.f33,F.f34,F.f35,F.f36,F.f37,F.f38,F.f39,F.f40,F.f41,fun _ => rfl,F.f43,F.f44,F.f45,F.f46,F.f47,F.st0,F.st1,F.st2,F.st3,F.st4,F.st5,F.st6⟩
      clear F
      go_simp
      exact HK.out _ _ ⟨⟨_,_,_,_,_,_,_,_,_,_,_,_,_,_,_,_,_,_,_,_,_,_,_,_,_,_,_,_,_,_,_,_,_,_,_,_,_,_,_,_,_,_,_,_,_,_,_,_,_,_,_,_,_⟩,rfl,HF.out⟩
    · obtain rfl := F.f40 (by simp [hdep])
      obtain rfl := F.f42 (by simp [hdep])
      have HF : Hid (alive9F av cv pb S0 S1 S2 S3 S4 S5 S6 (upd d_ 43) x67 x68 x69 x70 x71 x72 x73 x74 x75 x76 x77 x78 x79 x80 x81 x82 x83 x84 x85 x86 x87 x88 x89 x90 x91 x92 x93 x94 x95 x96 x97 x98 x99 x100 x101 x102 x103 x104 x105 x106 (.bool false) x108 (.bool false) (.bool false) x111 x112 x113 x114 ua ub uc ud ue w1) := ⟨F.q1,F.q2,F.q3,F.q4,F.q5,F.q6,F.q7,F.q8,F.q9,F.q10,F.q11,F.q12,F.q13,F.q14,F.q15,F.q16,F.q17,F.q18,F.q19,F.q20,F.q21,F.q22,F.q23,F.q24,F.q25,F.q26,F.q27,F.q28,F.q29,F.q30,F.q31,F.q32,F.q33,F.q34,F.q35,F.q36,F.q37,F.q38,F.q39,F.q40,F.q41,F.q42,fun _ => ⟨(show _ from (by simp [hdep] : d_ 40 = true)),(show _ from (by simp [hdep] : d_ 42 = true))⟩,fun h => ⟨(F.q44 h).1,rfl⟩,F.q45,F.q46,F.q47,F.f0,F.f1,F.f2,F.f3,F.f4,F.f5,F.f6,F.f7,F.f8,F.f9,F.f10,F.f12,F.f13,F.f14,F.f15,F.f16,F.f17,F.f18,F.f19,F.f20,F.f21,F.f22,F.f23,F.f24,F.f25,F.f26,F.f27,F.f28,F.f29,F.f30,F.f31,F.f32,F.f33,F.f34,F.f35,F.f36,F.f37,F.f38,F.f39,F.f40,F.f41,F.f42,fun _ => rfl,F.f44,F.f45,F.f46,F.f47,F.st0,F.st1,F.st2,F.st3,F.st4,F.st5,F.st6⟩
      clear F
      go_simp
      exact HK.out _ _ ⟨⟨_,_,_,_,_,_,_,_,_,_,_,_,_,_,_,_,_,_,_,_,_,_,_,_,_,_,_,_,_,_,_,_,_,_,_,_,_,_,_,_,_,_,_,_,_,_,_,_,_,_,_,_,_⟩,rfl,HF.out⟩
    · obtain rfl := F.f43 (by simp [hdep])
      have HF : Hid (alive9F av cv pb S0 S1 S2 S3 S4 S5 S6 (upd d_ 44) x67 x68 x69 x70 x71 x72 x73 x74 x75 x76 x77 x78 x79 x80 x81 x82 x83 x84 x85 x86 x87 x88 x89 x90 x91 x92 x93 x94 x95 x96 x97 x98 x99 x100 x101 x102 x103 x104 x105 x106 x107 x108 x109 (.bool false) (.bool false) x112 x113 x114 ua ub uc ud ue w1) := ⟨F.q1,F.q2,F.q3,F.q4,F.q5,F.q6,F.q7,F.q8,F.q9,F.q10,F.q11,F.q12,F.q13,F.q14,F.q15,F.q16,F.q17,F.q18,F.q19,F.q20,F.q21,F.q22,F.q23,F.q24,F.q25,F.q26,F.q27,F.q28,F.q29,F.q30,F.q31,F.q32,F.q33,F.q34,F.q35,F.q36,F.q37,F.q38,F.q39,F.q40,F.q41,F.q42,F.q43,fun _ => ⟨(show _ from (by simp [hdep] : d_ 40 = true)),(show _ from (by simp [hdep] : d_ 43 = true))⟩,fun h => rfl,fun h => ⟨rfl,(F.q46 h).2⟩,fun h => ⟨rfl,(F.q47 h).2⟩,F.f0,F.f1,F.f2,F.f3,F.f4,F.f5,F.f6,F.f7,F.f8,F.f9,F.f10,F.f12,F.f13,F.f14,F.f15,F.f16,F.f17,F.f18,F.f19,F.f20,F.f21,F.f22,F.f23,F.f24,F.f25,F.f26,F.f27,F.f28,F.f29,F.f30,F.f31,F.f32,F.f33,F.f34,F.f35,F.f36,F.f37,F.f38,F.f39,F.f40,F.f41,F.f42,F.f43,fun _ => rfl,F.f45,F.f46,F.f47,F.st0,F.st1,F.st2,F.st3,F.st4,F.st5,F.st6⟩
      clear F
      go_simp
      exact HK.out _ _ ⟨⟨_,_,_,_,_,_,_,_,_,_,_,_,_,_,_,_,_,_,_,_,_,_,_,_,_,_,_,_,_,_,_,_,_,_,_,_,_,_,_,_,_,_,_,_,_,_,_,_,_,_,_,_,_⟩,rfl,HF.out⟩
    · obtain rfl := F.f44 (by simp [hdep])
      have HF : Hid (alive9F av cv pb S0 S1 S2 S3 S4 S5 S6 (upd d_ 45) x67 x68 x69 x70 x71 x72 x73 x74 x75 x76 x77 x78 x79 x80 x81 x82 x83 x84 x85 x86 x87 x88 x89 x90 x91 x92 x93 x94 x95 x96 x97 x98 x99 x100 x101 x102 x103 x104 x105 x106 x107 x108 x109 x110 (.bool false) (.int .i64 0) x113 x114 ua ub uc ud ue w1) := ⟨F.q1,F.q2,F.q3,F.q4,F.q5,F.q6,F.q7,F.q8,F.q9,F.q10,F.q11,F.q12,F.q13,F.q14,F.q15,F.q16,F.q17,F.q18,F.q19,F.q20,F.q21,F.q22,F.q23,F.q24,F.q25,F.q26,F.q27,F.q28,F.q29,F.q30,F.q31,F.q32,F.q33,F.q34,F.q35,F.q36,F.q37,F.q38,F.q39,F.q40,F.q41,F.q42,F.q43,F.q44,fun _ => (show _ from (by simp [hdep] : d_ 44 = true)),fun h => ⟨(F.q46 h).1,rfl⟩,F.q47,F.f0,F.f1,F.f2,F.f3,F.f4,F.f5,F.f6,F.f7,F.f8,F.f9,F.f10,F.f12,F.f13,F.f14,F.f15,F.f16,F.f17,F.f18,F.f19,F.f20,F.f21,F.f22,F.f23,F.f24,F.f25,F.f26,F.f27,F.f28,F.f29,F.f30,F.f31,F.f32,F.f33,F.f34,F.f35,F.f36,F.f37,F.f38,F.f39,F.f40,F.f41,F.f42,F.f43,F.f44,fun _ => rfl,F.f46,F.f47,F.st0,F.st1,F.st2,F.st3,F.st4,F.st5,F.st6⟩
      clear F
      go_simp
      exact HK.out _ _ ⟨⟨_,_,_,_,_,_,_,_,_,_,_,_,_,_,_,_,_,_,_,_,_,_,_,_,_,_,_,_,_,_,_,_,_,_,_,_,_,_,_,_,_,_,_,_,_,_,_,_,_,_,_,_,_⟩,rfl,HF.out⟩
    · obtain rfl := F.f44 (by simp [hdep])
      obtain rfl := F.f45 (by simp [hdep])
      have HF : Hid (alive9F av cv pb S0 S1 S2 S3 S4 S5 S6 (upd d_ 46) x67 x68 x69 x70 x71 x72 x73 x74 x75 x76 x77 x78 x79 x80 x81 x82 x83 x84 x85 x86 x87 x88 x89 x90 x91 x92 x93 x94 x95 x96 x97 x98 x99 x100 x101 x102 x103 x104 x105 x106 x107 x108 x109 x110 (.bool false) (.int .i64 0) (.bool false) x114 ua ub uc ud ue w1) := ⟨F.q1,F.q2,F.q3,F.q4,F.q5,F.q6,F.q7,F.q8,F.q9,F.q10,F.q11,F.q12,F.q13,F.q14,F.q15,F.q16,F.q17,F.q18,F.q19,F.q20,F.q21,F.q22,F.q23,F.q24,F.q25,F.q26,F.q27,F.q28,F.q29,F.q30,F.q31,F.q32,F.q33,F.q34,F.q35,F.q36,F.q37,F.q38,F.q39,F.q40,F.q41,F.q42,F.q43,F.q44,F.q45,fun _ => ⟨(show _ from (by simp [hdep] : d_ 44 = true)),(show _ from (by simp [hdep] : d_ 45 = true))⟩,fun h => ⟨(F.q47 h).1,rfl⟩,F.f0,F.f1,F.f2,F.f3,F.f4,F.f5,F.f6,F.f7,F.f8,F.f9,F.f10,F.f12,F.f13,F.f14,F.f15,F.f16,F.f17,F.f18,F.f19,F.f20,F.f21,F.f22,F.f23,F.f24,F.f25,F.f26,F.f27,F.f28,F.f29,F.f30,F.f31,F.f32,F.f33,F.f34,F.f35,F.f36,F.f37,F.f38,F.f39,F.f40,F.f41,F.f42,F.f43,F.f44,F.f45,fun _ => rfl,F.f47,F.st0,F.st1,F.st2,F.st3,F.st4,F.st5,F.st6⟩
      clear F
      go_simp
      exact HK.out _ _ ⟨⟨_,_,_,_,_,_,_,_,_,_,_,_,_,_,_,_,_,_,_,_,_,_,_,_,_,_,_,_,_,_,_,_,_,_,_,_,_,_,_,_,_,_,_,_,_,_,_,_,_,_,_,_,_⟩,rfl,HF.out⟩
    · obtain rfl := F.f44 (by simp [hdep])
      obtain rfl := F.f46 (by simp [hdep])
      have HF : Hid (alive9F av cv pb S0 S1 S2 S3 S4 S5 S6 (upd d_ 47) x67 x68 x69 x70 x71 x72 x73 x74 x75 x76 x77 x78 x79 x80 x81 x82 x83 x84 x85 x86 x87 x88 x89 x90 x91 x92 x93 x94 x95 x96 x97 x98 x99 x100 x101 x102 x103 x104 x105 x106 x107 x108 x109 x110 (.bool false) x112 (.bool false) (.bool false) ua ub uc ud ue w1) := ⟨F.q1,F.q2,F.q3,F.q4,F.q5,F.q6,F.q7,F.q8,F.q9,F.q10,F.q11,F.q12,F.q13,F.q14,F.q15,F.q16,F.q17,F.q18,F.q19,F.q20,F.q21,F.q22,F.q23,F.q24,F.q25,F.q26,F.q27,F.q28,F.q29,F.q30,F.q31,F.q32,F.q33,F.q34,F.q35,F.q36,F.q37,F.q38,F.q39,F.q40,F.q41,F.q42,F.q43,F.q44,F.q45,F.q46,fun _ => ⟨(show _ from (by simp [hdep] : d_ 44 = true)),(show _ from (by simp [hdep] : d_ 46 = true))⟩,F.f0,F.f1,F.f2,F.f3,F.f4,F.f5,F.f6,F.f7,F.f8,F.f9,F.f10,F.f12,F.f13,F.f14,F.f15,F.f16,F.f17,F.f18,F.f19,F.f20,F.f21,F.f22,F.f23,F.f24,F.f25,F.f26,F.f27,F.f28,F.f29,F.f30,F.f31,F.f32,F.f33,F.f34,F.f35,F.f36,F.f37,F.f38,F.f39,F.f40,F.f41,F.f42,F.f43,F.f44,F.f45,F.f46,fun _ => rfl,F.st0,F.st1,F.st2,F.st3,F.st4,F.st5,F.st6⟩
      clear F
      go_simp
      exact HK.out _ _ ⟨⟨_,_,_,_,_,_,_,_,_,_,_,_,_,_,_,_,_,_,_,_,_,_,_,_,_,_,_,_,_,_,_,_,_,_,_,_,_,_,_,_,_,_,_,_,_,_,_,_,_,_,_,_,_⟩,rfl,HF.out⟩
  · rintro d_ a_ w1 hall ⟨⟨x67,x68,x69,x70,x71,x72,x73,x74,x75,x76,x77,x78,x79,x80,x81,x82,x83,x84,x85,x86,x87,x88,x89,x90,x91,x92,x93,x94,x95,x96,x97,x98,x99,x100,x101,x102,x103,x104,x105,x106,x107,x108,x109,x110,x111,x112,x113,x114,ua,ub,uc,ud,ue⟩,rfl,F⟩
    have hall' : ∀ k,k < 48 → d_ k = true := hall
    dsimp only at F ⊢
    obtain rfl := F.f0 (hall' 0 (by decide))
    obtain rfl := F.f1 (hall' 1 (by decide))
    obtain rfl := F.f2 (hall' 2 (by decide))
    obtain rfl := F.f3 (hall' 3 (by decide))
    obtain rfl := F.f4 (hall' 4 (by decide))
    obtain rfl := F.f5 (hall' 5 (by decide))
    obtain rfl := F.f6 (hall' 6 (by decide))
    obtain rfl := F.f7 (hall' 7 (by decide))
    obtain rfl := F.f8 (hall' 8 (by decide))
    obtain rfl := F.f9 (hall' 9 (by decide))
    obtain rfl := F.f10 (hall' 10 (by decide))
    obtain rfl := F.f12 (hall' 12 (by decide))
    obtain rfl := F.f13 (hall' 13 (by decide))
    obtain rfl := F.f14 (hall' 14 (by decide))
    obtain rfl := F.f15 (hall' 15 (by decide))
    obtain rfl := F.f16 (hall' 16 (by decide))
    obtain rfl := F.f17 (hall' 17 (by decide))
    obtain rfl := F.f18 (hall' 18 (by decide))
    obtain rfl := F.f19 (hall' 19 (by decide))
    obtain rfl := F.f20 (hall' 20 (by decide))
    obtain rfl := F.f21 (hall' 21 (by decide))
    obtain rfl := F.f22 (hall' 22 (by decide))
    obtain rfl := F.f23 (hall' 23 (by decide))
    obtain rfl := F.f24 (hall' 24 (by decide))
    obtain rfl := F.f25 (hall' 25 (by decide))
    obtain rfl := F.f26 (hall' 26 (by decide))
    obtain rfl := F.f27 (hall' 27 (by decide))
    obtain rfl := F.f28 (hall' 28 (by decide))
    obtain rfl := F.f29 (hall' 29 (by decide))
    obtain rfl := F.f30 (hall' 30 (by decide))
    obtain rfl := F.f31 (hall' 31 (by decide))
    obtain rfl := F.f32 (hall' 32 (by decide))
    obtain rfl := F.f33 (hall' 33 (by decide))
    obtain rfl := F.f34 (hall' 34 (by decide))
    obtain rfl := F.f35 (hall' 35 (by decide))
    obtain rfl := F.f36 (hall' 36 (by decide))
    obtain rfl := F.f37 (hall' 37 (by decide))
    obtain rfl := F.f38 (hall' 38 (by decide))
    obtain rfl := F.f39 (hall' 39 (by decide))
    obtain rfl := F.f40 (hall' 40 (by decide))
    obtain rfl := F.f41 (hall' 41 (by decide))
    obtain rfl := F.f42 (hall' 42 (by decide))
    obtain rfl := F.f43 (hall' 43 (by decide))
    obtain rfl := F.f44 (hall' 44 (by decide))
    obtain rfl := F.f45 (hall' 45 (by decide))
    obtain rfl := F.f46 (hall' 46 (by decide))
    obtain rfl := F.f47 (hall' 47 (by decide))
    have hst := F.st6 (hall' 17 (by decide))
    exact HQ.out ua ub uc x78 ud ue w1 hst
end Go.Proofs.Ytphefhpmbahagaa

namespace Go.Proofs.Ytphefhpmbahagaa
open Go.RowKit
set_option linter.unusedVariables false
set_option linter.unusedSimpArgs false

set_option maxRecDepth 100000 in
set_option maxHeartbeats 4000000 in
theorem alive13 (w : World) : Calls Try.prog 13 #[] w fun e w' => e = .returned (.bool true) ∧ Below w.heap.size w w' := by
  have HB := Lib.hid (Below.refl w.heap.size w)
  go_enter Try.func13,Try.ntmps13
  go_wp2_with fail
  refine (sample32 _).mono ?_
  rintro e a1 ⟨A1,rfl,hA,hb⟩
  have HA := Lib.hid hA
  have HX := Lib.hid (HB.out.trans (hb.mono HB.out.size))
  clear hA hb HB
  have HB := HX
  clear HX
  go_wp2_with fail
  have hb6 : Below a1.heap.size a1 (a1.alloc (.cells #[.int .i64 1,.int .i64 2,.int .i64 0] 3)) := (Below.refl _ _).alloc (Nat.le_refl _) _
  have q6 := World.alloc_heap_new a1 (.cells #[.int .i64 1,.int .i64 2,.int .i64 0] 3)
  refine (s_walked (HA.out.mono hb6) q6).mono ?_
  rintro e a2 ⟨rfl,hb0⟩
  have hb := hb6.trans (hb0.mono hb6.size)
  have HX := Lib.hid (HB.out.trans (hb.mono HB.out.size))
  clear hb hb0 HA HB hb6 q6
  have HB := HX
  clear HX
  go_wp2_with fail
  refine (sample32 _).mono ?_
  rintro e a3 ⟨A3,rfl,hA,hb⟩
  have HA := Lib.hid hA
  have HX := Lib.hid (HB.out.trans (hb.mono HB.out.size))
  clear hA hb HB
  have HB := HX
  clear HX
  go_wp2_with fail
  have hb6 : Below a3.heap.size a3 (a3.alloc (.cells #[.int .i64 0,.int .i64 1,.int .i64 2] 3)) := (Below.refl _ _).alloc (Nat.le_refl _) _
  have q6 := World.alloc_heap_new a3 (.cells #[.int .i64 0,.int .i64 1,.int .i64 2] 3)
  refine (s_times (HA.out.mono hb6) q6).mono ?_
  rintro e a4 ⟨av,cv,rfl,hts,hb0⟩
  have hb := hb6.trans (hb0.mono hb6.size)
  have HX := Lib.hid (And.intro (HB.out.trans (hb.mono HB.out.size)) hts)
  clear hb hb0 HA HB hb6 q6 hts
  have HB := HX
  clear HX
  go_upto_region 3 with fail
  have q7 := World.alloc_heap_new a4 (.cells #[.int .i64 505,.int .i64 520] 33)
  have hb7 : Below a4.heap.size a4 (a4.alloc (.cells #[.int .i64 505,.int .i64 520] 33)) := (Below.refl _ _).alloc (Nat.le_refl _) _
  have HX := Lib.hid (And.intro (HB.out.1.trans (hb7.mono HB.out.1.size)) (And.intro (HB.out.2.mono hb7) q7))
  clear q7 hb7 HB
  have HB := HX
  clear HX
  revert HB
  generalize (a4.alloc (.cells #[.int .i64 505,.int .i64 520] 33)) = c1
  generalize a4.heap.size = pb
  intro HB
  go_wp2_with fail
  refine (sample32 _).mono ?_
  rintro e a5 ⟨A5,rfl,hA,hb⟩
  have HA := Lib.hid hA
  have HX := Lib.hid (And.intro (HB.out.1.trans (hb.mono HB.out.1.size)) (And.intro (HB.out.2.1.mono hb) ((hb.block _ (heap_lt HB.out.2.2)).trans HB.out.2.2)))
  clear hA hb HB
  have HB := HX
  clear HX
  go_wp2_with fail
  have hb6 : Below a5.heap.size a5 (a5.alloc (.cells #[.int .i64 1,.int .i64 2,.int .i64 0] 3)) := (Below.refl _ _).alloc (Nat.le_refl _) _
  have q6 := World.alloc_heap_new a5 (.cells #[.int .i64 1,.int .i64 2,.int .i64 0] 3)
  refine (s_late (HA.out.mono hb6) q6).mono ?_
  rintro e a6 ⟨rfl,hb0⟩
  have hb := hb6.trans (hb0.mono hb6.size)
  have HX := Lib.hid (And.intro (HB.out.1.trans (hb.mono HB.out.1.size)) (And.intro (HB.out.2.1.mono hb) ((hb.block _ (heap_lt HB.out.2.2)).trans HB.out.2.2)))
  clear hb hb0 HA HB hb6 q6
  have HB := HX
  clear HX
  go_wp2_with fail
  refine (sample32 _).mono ?_
  rintro e a7 ⟨A7,rfl,hA,hb⟩
  have HA := Lib.hid hA
  have HX := Lib.hid (And.intro (HB.out.1.trans (hb.mono HB.out.1.size)) (And.intro (HB.out.2.1.mono hb) ((hb.block _ (heap_lt HB.out.2.2)).trans HB.out.2.2)))
  clear hA hb HB
  have HB := HX
  clear HX
  go_wp2_with fail
  refine (s_tours HA.out).mono ?_
  rintro e a8 ⟨rfl,hb0⟩
  have hb := hb0
  have HX := Lib.hid (And.intro (HB.out.1.trans (hb.mono HB.out.1.size)) (And.intro (HB.out.2.1.mono hb) ((hb.block _ (heap_lt HB.out.2.2)).trans HB.out.2.2)))
  clear hb hb0 HA HB
  have HB := HX
  clear HX
  go_wp2_with fail
  refine (sample32 _).mono ?_
  rintro e a9 ⟨A9,rfl,hA,hb⟩
  have HA := Lib.hid hA
  have HX := Lib.hid (And.intro (HB.out.1.trans (hb.mono HB.out.1.size)) (And.intro (HB.out.2.1.mono hb) ((hb.block _ (heap_lt HB.out.2.2)).trans HB.out.2.2)))
  clear hA hb HB
  have HB := HX
  clear HX
  go_wp2_with fail
  refine (s_short HA.out).mono ?_
  rintro e a10 ⟨as1,cs1,rfl,hsh,hb0⟩
  have hb := hb0
  have HX := Lib.hid (And.intro (HB.out.1.trans (hb.mono HB.out.1.size)) (And.intro (HB.out.2.1.mono hb) (And.intro ((hb.block _ (heap_lt HB.out.2.2)).trans HB.out.2.2) hsh)))
  clear hb hb0 HA HB hsh
  have HB := HX
  clear HX
  go_wp2_with fail
  refine (sample32 _).mono ?_
  rintro e a11 ⟨A11,rfl,hA,hb⟩
  have HA := Lib.hid hA
  have HX := Lib.hid (And.intro (HB.out.1.trans (hb.mono HB.out.1.size)) (And.intro (HB.out.2.1.mono hb) (And.intro ((hb.block _ (heap_lt HB.out.2.2.1)).trans HB.out.2.2.1) (HB.out.2.2.2.mono hb))))
  clear hA hb HB
  have HB := HX
  clear HX
  go_wp2_with fail
  refine (s_most HA.out).mono ?_
  rintro e a12 ⟨am,cm,rfl,hmo,hb0⟩
  have hb := hb0
  have HX := Lib.hid (And.intro (HB.out.1.trans (hb.mono HB.out.1.size)) (And.intro (HB.out.2.1.mono hb) (And.intro ((hb.block _ (heap_lt HB.out.2.2.1)).trans HB.out.2.2.1) (And.intro (HB.out.2.2.2.mono hb) hmo))))
  clear hb hb0 HA HB hmo
  have HB := HX
  clear HX
  go_wp2_with fail
  refine (sample32 _).mono ?_
  rintro e a13 ⟨A13,rfl,hA,hb⟩
  have HA := Lib.hid hA
  have HX := Lib.hid (And.intro (HB.out.1.trans (hb.mono HB.out.1.size)) (And.intro (HB.out.2.1.mono hb) (And.intro ((hb.block _ (heap_lt HB.out.2.2.1)).trans HB.out.2.2.1) (And.intro (HB.out.2.2.2.1.mono hb) (HB.out.2.2.2.2.mono hb)))))
  clear hA hb HB
  have HB := HX
  clear HX
  go_wp2_with fail
  refine (s_before HA.out).mono ?_
  rintro e a14 ⟨rfl,hb0⟩
  have hb := hb0
  have HX := Lib.hid (And.intro (HB.out.1.trans (hb.mono HB.out.1.size)) (And.intro (HB.out.2.1.mono hb) (And.intro ((hb.block _ (heap_lt HB.out.2.2.1)).trans HB.out.2.2.1) (And.intro (HB.out.2.2.2.1.mono hb) (HB.out.2.2.2.2.mono hb)))))
  clear hb hb0 HA HB
  have HB := HX
  clear HX
  go_wp2_with fail
  refine (sample32 _).mono ?_
  rintro e a15 ⟨A15,rfl,hA,hb⟩
  have HA := Lib.hid hA
  have HX := Lib.hid (And.intro (HB.out.1.trans (hb.mono HB.out.1.size)) (And.intro (HB.out.2.1.mono hb) (And.intro ((hb.block _ (heap_lt HB.out.2.2.1)).trans HB.out.2.2.1) (And.intro (HB.out.2.2.2.1.mono hb) (HB.out.2.2.2.2.mono hb)))))
  clear hA hb HB
  have HB := HX
  clear HX
  go_wp2_with fail
  have hb6 : Below a15.heap.size a15 (a15.alloc (.cells #[.int .i64 1,.int .i64 0,.int .i64 2] 3)) := (Below.refl _ _).alloc (Nat.le_refl _) _
  have q6 := World.alloc_heap_new a15 (.cells #[.int .i64 1,.int .i64 0,.int .i64 2] 3)
  refine (s_later (HA.out.mono hb6) q6).mono ?_
  rintro e a16 ⟨rfl,hb0⟩
  have hb := hb6.trans (hb0.mono hb6.size)
  have HX := Lib.hid (And.intro (HB.out.1.trans (hb.mono HB.out.1.size)) (And.intro (HB.out.2.1.mono hb) (And.intro ((hb.block _ (heap_lt HB.out.2.2.1)).trans HB.out.2.2.1) (And.intro (HB.out.2.2.2.1.mono hb) (HB.out.2.2.2.2.mono hb)))))
  clear hb hb0 HA HB hb6 q6
  have HB := HX
  clear HX
  go_upto_region 9 with fail
  have c41 : ∀ (x y : Int) (v : World),Below a16.heap.size a16 v → Calls Try.prog 41 #[.int .i64 x,.int .i64 y] v fun e w' => ∃ u : Unit,e = .returned (.agg #[.int .i64 x,.int .i64 y]) ∧ Below a16.heap.size a16 w' := fun x y v h => (span41 x y v).mono fun e w' he => ⟨(),he.1,h.trans (he.2.mono h.size)⟩
  have C41 := Lib.hid c41
  clear c41
  refine wpIn_wide.1 (alive9 (av := av) (cv := cv) (pb := pb) (S0 := fun v => Below a16.heap.size a16 v) (S1 := fun _ v => Below a16.heap.size a16 v) (S2 := fun _ _ v => Below a16.heap.size a16 v) (S3 := fun _ _ _ v => Below a16.heap.size a16 v)
    (S4 := fun _ _ _ xs v => Below a16.heap.size a16 v ∧ ∃ g,xs = .slice (some ⟨g,0,none⟩) 3 3 ∧ IsSpns v (some ⟨g,0,none⟩) [⟨420,420⟩,⟨445,455⟩,⟨500,510⟩]) (S5 := fun _ _ _ _ _ v => Below a16.heap.size a16 v) (S6 := fun _ _ _ _ _ _ v => Below a16.heap.size a16 v)
    (Below.refl _ _).drew (fun v h => C41.out _ _ v h) (fun _ v h => C41.out _ _ v h) (fun _ _ v h => C41.out _ _ v h) ?c11 ?c12 ?l16 (fun _ _ _ _ _ v h => C41.out _ _ v h) ?hQa)
  case c11 =>
    intro _ _ _ v h
    have q := World.alloc_heap_new v (.cells #[.int .i64 420,.int .i64 420,.int .i64 445,.int .i64 455,.int .i64 500,.int .i64 510] 33)
    exact ⟨h.alloc h.size _,v.heap.size,rfl,spns_of (a := ⟨420,420⟩) (b := ⟨445,455⟩) (c := ⟨500,510⟩) q⟩
  case c12 =>
    rintro _ _ _ xs v ⟨h,g,rfl,hs⟩
    refine (spans22 (l := [⟨420,420⟩,⟨445,455⟩,⟨500,510⟩]) (m := [⟨420,420⟩,⟨445,455⟩,⟨500,510⟩]) (ca := cv) (cb := 3) (HB.out.2.1.mono h) hs (by decide) (by decide)).mono ?_
    rintro e w' ⟨rfl,hb⟩
    exact ⟨(),rfl,h.trans (hb.mono h.size)⟩
  case l16 =>
    intro _ _ _ _ _ _ v h
    have h : Below a16.heap.size a16 v := h.elim id id
    have q := (h.block _ (heap_lt HB.out.2.2.1)).trans HB.out.2.2.1
    exact ⟨by rw [cell_of_heap q]; rfl,by rw [cell_of_heap q]; rfl⟩
  intro _ _ _ xs _ _ b1 hb
  have HX := Lib.hid (And.intro (HB.out.1.trans (hb.mono HB.out.1.size)) (And.intro (HB.out.2.2.2.1.mono hb) (HB.out.2.2.2.2.mono hb)))
  clear hb HB C41
  have HB := HX
  clear HX
  go_wp2_with fail
  have hb6 : Below b1.heap.size b1 (b1.alloc (.cells #[.int .i64 1,.int .i64 0,.int .i64 2] 3)) := (Below.refl _ _).alloc (Nat.le_refl _) _
  have q6 := World.alloc_heap_new b1 (.cells #[.int .i64 1,.int .i64 0,.int .i64 2] 3)
  refine (ints31 (l := [1,0,2]) (m := [1,0,2]) (ca := cs1) (cb := 3) (HB.out.2.1.mono hb6) (ints_three q6) (by decide) (by decide)).mono ?_
  rintro e b2 ⟨rfl,hb⟩
  have hb := hb6.trans (hb.mono hb6.size)
  have HX := Lib.hid (And.intro (HB.out.1.trans (hb.mono HB.out.1.size)) (And.intro (HB.out.2.1.mono hb) (HB.out.2.2.mono hb)))
  clear hb HB hb6 q6
  have HB := HX
  clear HX
  rw [show decide (([1,0,2] : List Int) = [1,0,2]) = true by decide]
  go_wp2_with fail
  refine (ints31 (l := [1,0,2]) (m := [1,0,2]) (ca := cm) (cb := cs1) HB.out.2.2 HB.out.2.1 (by decide) (by decide)).mono ?_
  rintro e b3 ⟨rfl,hb⟩
  have HX := Lib.hid (HB.out.1.trans (hb.mono HB.out.1.size))
  clear hb HB
  rw [show decide (([1,0,2] : List Int) = [1,0,2]) = true by decide]
  go_wp2_with fail
  go_ret
  exact ⟨rfl,HX.out⟩
end Go.Proofs.Ytphefhpmbahagaa

