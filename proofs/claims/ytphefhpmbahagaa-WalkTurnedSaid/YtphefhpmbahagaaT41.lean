/- The best sure order: the drawn regions. -/
import Derived.Test.YtphefhpmbahagaaT40
namespace Go.Proofs.Ytphefhpmbahagaa
open Go.RowKit
set_option linter.unusedVariables false
set_option linter.unusedSimpArgs false
instance : Inhabited PV := ⟨noPV⟩

structure best11F (mx : Nat) (tx : Nat) (sx : Nat) (b4 : Nat) (mb10 : Nat) (tb : Nat) (v : Nat) (z : Nat) (seen : Nat) (px : Int) (py : Int) (q : Int) (s : Spn) (sb : Nat) (so : Nat) (sn : Nat) (sc : Nat) (S0 : Bool → Nat → World → Prop) (S1 : Bool → Nat → Int → World → Prop) (S2 : Bool → Nat → Int → PV → World → Prop) (S3 : Bool → Nat → Int → PV → World → Prop) (d : Nat → Bool) (x53 x54 x55 x56 x57 x58 x59 x60 x61 x62 x63 x64 x65 x66 x67 x68 x69 x70 x71 x72 x11 : Value) (ms : Nat) (r : Int) (p : PV) (w : World) : Prop where
  q2 : d 2 = true → d 1 = true
  q4 : d 4 = true → d 3 = true
  q5 : d 5 = true → d 2 = true ∧ d 4 = true
  q9 : d 9 = true → d 8 = true
  q10 : d 10 = true → d 9 = true
  q11 : d 11 = true → d 10 = true
  q12 : d 12 = true → d 11 = true
  q14 : d 14 = true → d 12 = true ∧ d 13 = true
  q15 : d 15 = true → d 14 = true
  q16 : d 16 = true → d 7 = true ∧ d 15 = true
  q17 : d 17 = true → d 16 = true
  q18 : d 18 = true → d 5 = true ∧ d 6 = true ∧ d 17 = true
  q19 : d 19 = true → d 0 = true ∧ d 16 = true ∧ d 18 = true
  q21 : d 21 = true → d 0 = true ∧ d 1 = true ∧ d 2 = true ∧ d 3 = true ∧ d 4 = true ∧ d 5 = true ∧ d 6 = true ∧ d 7 = true ∧ d 8 = true ∧ d 9 = true ∧ d 10 = true ∧ d 11 = true ∧ d 12 = true ∧ d 13 = true ∧ d 14 = true ∧ d 15 = true ∧ d 16 = true ∧ d 17 = true ∧ d 18 = true ∧ d 19 = true ∧ d 20 = true
  f0 : d 0 = true → x53 = .func (.func 91) #[] #[.pointer (some ⟨mx,0,none⟩),.pointer (some ⟨tx,0,none⟩),.pointer (some ⟨sx,0,none⟩)]
  f1 : d 1 = true → x54 = .pointer (some ⟨b4,0,none⟩)
  f2 : d 2 = true → x55 = .int .i64 seen
  f3 : d 3 = true → x56 = .int .i64 v
  f4 : d 4 = true → x57 = .int .i64 z
  f5 : d 5 = true → x58 = .int .i64 (seen ||| z : Nat)
  f6 : d 6 = true → x59 = .int .i64 v
  f7 : d 7 = true → x60 = .agg #[.int .i64 px,.int .i64 py]
  f8 : d 8 = true → x61 = .pointer (some ⟨tb,0,none⟩)
  f9 : d 9 = true → x62 = .pointer (some ⟨tb,0,none⟩)
  f10 : d 10 = true → x63 = .pointer (some ⟨tb,0,none⟩)
  f11 : d 11 = true → x64 = .pointer (some ⟨tb,3,none⟩)
  f12 : d 12 = true → x65 = .slice (some ⟨sb,so,none⟩) sn sc
  f13 : d 13 = true → x66 = .int .i64 v
  f14 : d 14 = true → x67 = .pointer (some ⟨sb,so + v * 2,none⟩)
  f15 : d 15 = true → x68 = .agg #[.int .i64 s.lo,.int .i64 s.hi]
  f16 : d 16 = true → x69 = .agg #[.int .i64 r,.int .i64 q]
  f17 : d 17 = true → x70 = .int .i64 q
  f18 : d 18 = true → x71 = .agg #[.int .i64 (seen ||| z : Nat),.int .i64 v,.int .i64 q]
  f19 : d 19 = true → x72 = p.v
  f20 : d 20 = true → x11 = .pointer (some ⟨ms,0,none⟩)
  st0 : d 16 = false → S0 (d 20) ms w
  st1 : d 16 = true → d 19 = false → S1 (d 20) ms r w
  st2 : d 19 = true → d 21 = false → S2 (d 20) ms r p w
  st3 : d 21 = true → S3 (d 20) ms r p w
  mz : d 20 = false → ms = 0
noncomputable def best11C : Code := (Try.f91.body.bind (regionAt 11)).getD .skip
set_option maxRecDepth 100000 in
set_option maxHeartbeats 4000000 in
theorem best11 {mx : Nat} {tx : Nat} {sx : Nat} {b4 : Nat} {mb10 : Nat} {tb : Nat} {v : Nat} {z : Nat} {seen : Nat} {px : Int} {py : Int} {q : Int} {s : Spn} {sb : Nat} {so : Nat} {sn : Nat} {sc : Nat} {S0 : Bool → Nat → World → Prop} {S1 : Bool → Nat → Int → World → Prop} {S2 : Bool → Nat → Int → PV → World → Prop} {S3 : Bool → Nat → Int → PV → World → Prop} {Q : Exit → Act → World → Prop} {W1 : World} (hvn : v < sn) (hv6 : v < 6) (hsh : IntKind.i64.wrap (2 ^ v) = (z : Int)) (hor : bits .or .i64 (seen : Int) (z : Int) = ((seen ||| z : Nat) : Int)) (h0 : S0 false 0 W1.drew)
    (kl0 : Hid (∀ (fs : Bool) (ms : Nat) (r : Int) (w : World),(S0 fs ms w ∨ S1 fs ms r w) → w.cell? ⟨sx,0,none⟩ = some (.func (.func 91) #[] #[.pointer (some ⟨mx,0,none⟩),.pointer (some ⟨tx,0,none⟩),.pointer (some ⟨sx,0,none⟩)])))
    (kl2 : Hid (∀ (fs : Bool) (ms : Nat) (r : Int) (w : World),(S0 fs ms w ∨ S1 fs ms r w) → w.cell? ⟨b4,0,none⟩ = some (.int .i64 seen)))
    (kl7 : Hid (∀ (fs : Bool) (ms : Nat) (w : World),(S0 fs ms w) → w.cell? ⟨mb10,0,none⟩ = some (.int .i64 px) ∧ w.cell? ⟨mb10,1,none⟩ = some (.int .i64 py)))
    (kl8 : Hid (∀ (fs : Bool) (ms : Nat) (w : World),(S0 fs ms w) → w.cell? ⟨tx,0,none⟩ = some (.pointer (some ⟨tb,0,none⟩))))
    (kl12 : Hid (∀ (fs : Bool) (ms : Nat) (w : World),(S0 fs ms w) → w.cell? ⟨tb,3,none⟩ = some (.slice (some ⟨sb,so,none⟩) sn sc)))
    (kl15 : Hid (∀ (fs : Bool) (ms : Nat) (w : World),(S0 fs ms w) → w.cell? ⟨sb,so + v * 2,none⟩ = some (.int .i64 s.lo) ∧ w.cell? ⟨sb,so + v * 2 + 1,none⟩ = some (.int .i64 s.hi)))
    (kc16 : Hid (∀ (fs : Bool) (ms : Nat) (w : World),S0 fs ms w → Calls Try.prog 83 #[.agg #[.int .i64 px,.int .i64 py],.agg #[.int .i64 s.lo,.int .i64 s.hi]] w fun e w' => ∃ r : Int,e = .returned (.agg #[.int .i64 r,.int .i64 q]) ∧ S1 fs ms r w'))
    (kc19 : Hid (∀ (fs : Bool) (ms : Nat) (r : Int) (w : World),S1 fs ms r w → Calls Try.prog 91 #[.agg #[.int .i64 (seen ||| z : Nat),.int .i64 v,.int .i64 q],.pointer (some ⟨mx,0,none⟩),.pointer (some ⟨tx,0,none⟩),.pointer (some ⟨sx,0,none⟩)] w fun e w' => ∃ p : PV,e = .returned (p.v) ∧ S2 fs ms r p w'))
    (ks0 : Hid (∀ (w : World),S0 false 0 w → S0 true w.heap.size (w.alloc (.cells #[.slice none 0 0,.int .i64 0] 98))))
    (ks1 : Hid (∀ (r : Int) (w : World),S1 false 0 r w → S1 true w.heap.size r (w.alloc (.cells #[.slice none 0 0,.int .i64 0] 98))))
    (ks2 : Hid (∀ (r : Int) (p : PV) (w : World),S2 false 0 r p w → S2 true w.heap.size r p (w.alloc (.cells #[.slice none 0 0,.int .i64 0] 98))))
    (kc21 : Hid (∀ (ms : Nat) (r : Int) (p : PV) (w : World),S2 true ms r p w → (∃ u,w.cell? ⟨ms,0,none⟩ = some u) ∧ w.frozen? ⟨ms,0,none⟩ = false ∧ (∃ u,w.cell? ⟨ms,1,none⟩ = some u) ∧ w.frozen? ⟨ms,1,none⟩ = false ∧ S3 true ms r p ((w.setCell ⟨ms,0,none⟩ (.slice p.a p.o.length p.c)).setCell ⟨ms,1,none⟩ (.int .i64 p.over))))
    {s0 s1 s5 s6 s7 s8 s11 s12 s13 s14 s15 s16 s17 s18 s19 s20 s21 s22 s23 s24 s25 s26 s27 s28 s29 s30 s31 s32 s33 s34 s35 s36 s37 s38 s39 s40 s41 s42 s43 s44 s45 s46 s47 s48 s49 s50 s51 s52 s53 s54 s55 s56 s57 s58 s59 s60 s61 s62 s63 s64 s65 s66 s67 s68 s69 s70 s71 s72 s73 s74 s75 s76 s77 s78 s79 s80 s81 s82 s83 s84 s85 s86 s87 s88 s89 s90 s91 s92 s93 s94 s95 : Value} {dd : List Deferred}
    (hQ : ∀ (ms : Nat) (r : Int) (p : PV) (w' : World),S3 true ms r p w' → Q .normal { tmps := #[s0,s1,.pointer (some ⟨tx,0,none⟩),.pointer (some ⟨sx,0,none⟩),.pointer (some ⟨b4,0,none⟩),s5,s6,s7,s8,.int .i64 v,.pointer (some ⟨mb10,0,none⟩),.pointer (some ⟨ms,0,none⟩),s12,s13,s14,s15,s16,s17,s18,s19,s20,s21,s22,s23,s24,s25,s26,s27,s28,s29,s30,s31,s32,s33,s34,s35,s36,s37,s38,s39,s40,s41,s42,s43,s44,s45,s46,s47,s48,s49,s50,s51,s52,.func (.func 91) #[] #[.pointer (some ⟨mx,0,none⟩),.pointer (some ⟨tx,0,none⟩),.pointer (some ⟨sx,0,none⟩)],.pointer (some ⟨b4,0,none⟩),.int .i64 seen,.int .i64 v,.int .i64 z,.int .i64 (seen ||| z : Nat),.int .i64 v,.agg #[.int .i64 px,.int .i64 py],.pointer (some ⟨tb,0,none⟩),.pointer (some ⟨tb,0,none⟩),.pointer (some ⟨tb,0,none⟩),.pointer (some ⟨tb,3,none⟩),.slice (some ⟨sb,so,none⟩) sn sc,.int .i64 v,.pointer (some ⟨sb,so + v * 2,none⟩),.agg #[.int .i64 s.lo,.int .i64 s.hi],.agg #[.int .i64 r,.int .i64 q],.int .i64 q,.agg #[.int .i64 (seen ||| z : Nat),.int .i64 v,.int .i64 q],p.v,s73,s74,s75,s76,s77,s78,s79,s80,s81,s82,s83,s84,s85,s86,s87,s88,s89,s90,s91,s92,s93,s94,s95],defers := dd } w') :
    Code.wpIn (wideAt none) 0 Try.prog best11C Q { tmps := #[s0,s1,.pointer (some ⟨tx,0,none⟩),.pointer (some ⟨sx,0,none⟩),.pointer (some ⟨b4,0,none⟩),s5,s6,s7,s8,.int .i64 v,.pointer (some ⟨mb10,0,none⟩),s11,s12,s13,s14,s15,s16,s17,s18,s19,s20,s21,s22,s23,s24,s25,s26,s27,s28,s29,s30,s31,s32,s33,s34,s35,s36,s37,s38,s39,s40,s41,s42,s43,s44,s45,s46,s47,s48,s49,s50,s51,s52,s53,s54,s55,s56,s57,s58,s59,s60,s61,s62,s63,s64,s65,s66,s67,s68,s69,s70,s71,s72,s73,s74,s75,s76,s77,s78,s79,s80,s81,s82,s83,s84,s85,s86,s87,s88,s89,s90,s91,s92,s93,s94,s95],defers := dd } W1 := by
  have HQ := Lib.hid hQ
  clear hQ
  conv => arg 4; whnf
  refine wpIn_region_invG mixed (by kernel_rfl) (fun d_ a_ w' => ∃ (x53 : Value) (x54 : Value) (x55 : Value) (x56 : Value) (x57 : Value) (x58 : Value) (x59 : Value) (x60 : Value) (x61 : Value) (x62 : Value) (x63 : Value) (x64 : Value) (x65 : Value) (x66 : Value) (x67 : Value) (x68 : Value) (x69 : Value) (x70 : Value) (x71 : Value) (x72 : Value) (x11 : Value) (ms : Nat) (r : Int) (p : PV),a_ = { tmps := #[s0,s1,.pointer (some ⟨tx,0,none⟩),.pointer (some ⟨sx,0,none⟩),.pointer (some ⟨b4,0,none⟩),s5,s6,s7,s8,.int .i64 v,.pointer (some ⟨mb10,0,none⟩),x11,s12,s13,s14,s15,s16,s17,s18,s19,s20,s21,s22,s23,s24,s25,s26,s27,s28,s29,s30,s31,s32,s33,s34,s35,s36,s37,s38,s39,s40,s41,s42,s43,s44,s45,s46,s47,s48,s49,s50,s51,s52,x53,x54,x55,x56,x57,x58,x59,x60,x61,x62,x63,x64,x65,x66,x67,x68,x69,x70,x71,x72,s73,s74,s75,s76,s77,s78,s79,s80,s81,s82,s83,s84,s85,s86,s87,s88,s89,s90,s91,s92,s93,s94,s95],defers := dd } ∧ best11F mx tx sx b4 mb10 tb v z seen px py q s sb so sn sc S0 S1 S2 S3 d_ x53 x54 x55 x56 x57 x58 x59 x60 x61 x62 x63 x64 x65 x66 x67 x68 x69 x70 x71 x72 x11 ms r p w') ?_ ?_ ?_
  · refine ⟨s53,s54,s55,s56,s57,s58,s59,s60,s61,s62,s63,s64,s65,s66,s67,s68,s69,s70,s71,s72,s11,0,0,default,rfl,?_⟩
    constructor <;> first | rfl | (intro _; rfl) | (intro h; cases h; done) | (intro _; exact h0) | exact h0
  · refine ⟨?_,?_,?_,?_,?_,?_,?_,?_,?_,?_,?_,?_,?_,?_,?_,?_,?_,?_,?_,?_,?_,?_,trivial⟩
    all_goals
      rintro d_ a_ w1 K hd_ hdep ⟨x53,x54,x55,x56,x57,x58,x59,x60,x61,x62,x63,x64,x65,x66,x67,x68,x69,x70,x71,x72,x11,ms,r,p,rfl,F⟩ HK
      simp [Region.binds] at hdep
    · have hst : S0 (d_ 20) ms w1 ∨ S1 (d_ 20) ms r w1 := by
        cases e1 : d_ 16 with
        | false => exact .inl ((F.st0 e1))
        | true =>
          have n_ : d_ 19 = false := by
            cases e_ : d_ 19 with
            | false => rfl
            | true => have h2 := (F.q19 e_).1; rw [show d_ 0 = false from hd_] at h2; cases h2
          exact .inr ((F.st1 e1 n_))
      have kk := kl0.out (d_ 20) ms r w1 hst
      clear hst
      have HF : Hid (best11F mx tx sx b4 mb10 tb v z seen px py q s sb so sn sc S0 S1 S2 S3 (upd d_ 0) (.func (.func 91) #[] #[.pointer (some ⟨mx,0,none⟩),.pointer (some ⟨tx,0,none⟩),.pointer (some ⟨sx,0,none⟩)]) x54 x55 x56 x57 x58 x59 x60 x61 x62 x63 x64 x65 x66 x67 x68 x69 x70 x71 x72 x11 ms r p w1) := ⟨F.q2,F.q4,F.q5,F.q9,F.q10,F.q11,F.q12,F.q14,F.q15,F.q16,F.q17,F.q18,fun h => ⟨rfl,(F.q19 h).2.1,(F.q19 h).2.2⟩,fun h => ⟨rfl,(F.q21 h).2.1,(F.q21 h).2.2.1,(F.q21 h).2.2.2.1,(F.q21 h).2.2.2.2.1,(F.q21 h).2.2.2.2.2.1,(F.q21 h).2.2.2.2.2.2.1,(F.q21 h).2.2.2.2.2.2.2.1,(F.q21 h).2.2.2.2.2.2.2.2.1,(F.q21 h).2.2.2.2.2.2.2.2.2.1,(F.q21 h).2.2.2.2.2.2.2.2.2.2.1,(F.q21 h).2.2.2.2.2.2.2.2.2.2.2.1,(F.q21 h).2.2.2.2.2.2.2.2.2.2.2.2.1,(F.q21 h).2.2.2.2.2.2.2.2.2.2.2.2.2.1,(F.q21 h).2.2.2.2.2.2.2.2.2.2.2.2.2.2.1,(F.q21 h).2.2.2.2.2.2.2.2.2.2.2.2.2.2.2.1,(F.q21 h).2.2.2.2.2.2.2.2.2.2.2.2.2.2.2.2.1,(F.q21 h).2.2.2.2.2.2.2.2.2.2.2.2.2.2.2.2.2.1,(F.q21 h).2.2.2.2.2.2.2.2.2.2.2.2.2.2.2.2.2.2.1,(F.q21 h).2.2.2.2.2.2.2.2.2.2.2.2.2.2.2.2.2.2.2.1,(F.q21 h).2.2.2.2.2.2.2.2.2.2.2.2.2.2.2.2.2.2.2.2⟩,fun _ => rfl,F.f1,F.f2,F.f3,F.f4,F.f5,F.f6,F.f7,F.f8,F.f9,F.f10,F.f11,F.f12,F.f13,F.f14,F.f15,F.f16,F.f17,F.f18,F.f19,F.f20,F.st0,F.st1,F.st2,F.st3,F.mz⟩
      clear F
      go_simp
      exact HK.out _ _ ⟨_,_,_,_,_,_,_,_,_,_,_,_,_,_,_,_,_,_,_,_,_,_,_,_,rfl,HF.out⟩
    · have HF : Hid (best11F mx tx sx b4 mb10 tb v z seen px py q s sb so sn sc S0 S1 S2 S3 (upd d_ 1) x53 (.pointer (some ⟨b4,0,none⟩)) x55 x56 x57 x58 x59 x60 x61 x62 x63 x64 x65 x66 x67 x68 x69 x70 x71 x72 x11 ms r p w1) := ⟨fun h => rfl,F.q4,F.q5,F.q9,F.q10,F.q11,F.q12,F.q14,F.q15,F.q16,F.q17,F.q18,F.q19,fun h => ⟨(F.q21 h).1,rfl,(F.q21 h).2.2.1,(F.q21 h).2.2.2.1,(F.q21 h).2.2.2.2.1,(F.q21 h).2.2.2.2.2.1,(F.q21 h).2.2.2.2.2.2.1,(F.q21 h).2.2.2.2.2.2.2.1,(F.q21 h).2.2.2.2.2.2.2.2.1,(F.q21 h).2.2.2.2.2.2.2.2.2.1,(F.q21 h).2.2.2.2.2.2.2.2.2.2.1,(F.q21 h).2.2.2.2.2.2.2.2.2.2.2.1,(F.q21 h).2.2.2.2.2.2.2.2.2.2.2.2.1,(F.q21 h).2.2.2.2.2.2.2.2.2.2.2.2.2.1,(F.q21 h).2.2.2.2.2.2.2.2.2.2.2.2.2.2.1,(F.q21 h).2.2.2.2.2.2.2.2.2.2.2.2.2.2.2.1,(F.q21 h).2.2.2.2.2.2.2.2.2.2.2.2.2.2.2.2.1,(F.q21 h).2.2.2.2.2.2.2.2.2.2.2.2.2.2.2.2.2.1,(F.q21 h).2.2.2.2.2.2.2.2.2.2.2.2.2.2.2.2.2.2.1,(F.q21 h).2.2.2.2.2.2.2.2.2.2.2.2.2.2.2.2.2.2.2.1,(F.q21 h).2.2.2.2.2.2.2.2.2.2.2.2.2.2.2.2.2.2.2.2⟩,F.f0,fun _ => rfl,F.f2,F.f3,F.f4,F.f5,F.f6,F.f7,F.f8,F.f9,F.f10,F.f11,F.f12,F.f13,F.f14,F.f15,F.f16,F.f17,F.f18,F.f19,F.f20,F.st0,F.st1,F.st2,F.st3,F.mz⟩
      clear F
      go_simp
      exact HK.out _ _ ⟨_,_,_,_,_,_,_,_,_,_,_,_,_,_,_,_,_,_,_,_,_,_,_,_,rfl,HF.out⟩
    · have hst : S0 (d_ 20) ms w1 ∨ S1 (d_ 20) ms r w1 := by
        cases e1 : d_ 16 with
        | false => exact .inl ((F.st0 e1))
        | true =>
          have n_ : d_ 19 = false := by
            cases e_ : d_ 19 with
            | false => rfl
            | true => have h2 := (F.q5 (F.q18 (F.q19 e_).2.2).1).1; rw [show d_ 2 = false from hd_] at h2; cases h2
          exact .inr ((F.st1 e1 n_))
      have kk := kl2.out (d_ 20) ms r w1 hst
      clear hst
      obtain rfl := F.f1 (by simp [hdep])
      have HF : Hid (best11F mx tx sx b4 mb10 tb v z seen px py q s sb so sn sc S0 S1 S2 S3 (upd d_ 2) x53 (.pointer (some ⟨b4,0,none⟩)) (.int .i64 seen) x56 x57 x58 x59 x60 x61 x62 x63 x64 x65 x66 x67 x68 x69 x70 x71 x72 x11 ms r p w1) := ⟨fun _ => (show _ from (by simp [hdep] : d_ 1 = true)),F.q4,fun h => ⟨rfl,(F.q5 h).2⟩,F.q9,F.q10,F.q11,F.q12,F.q14,F.q15,F.q16,F.q17,F.q18,F.q19,fun h => ⟨(F.q21 h).1,(F.q21 h).2.1,rfl,(F.q21 h).2.2.2.1,(F.q21 h).2.2.2.2.1,(F.q21 h).2.2.2.2.2.1,(F.q21 h).2.2.2.2.2.2.1,(F.q21 h).2.2.2.2.2.2.2.1,(F.q21 h).2.2.2.2.2.2.2.2.1,(F.q21 h).2.2.2.2.2.2.2.2.2.1,(F.q21 h).2.2.2.2.2.2.2.2.2.2.1,(F.q21 h).2.2.2.2.2.2.2.2.2.2.2.1,(F.q21 h).2.2.2.2.2.2.2.2.2.2.2.2.1,(F.q21 h).2.2.2.2.2.2.2.2.2.2.2.2.2.1,(F.q21 h).2.2.2.2.2.2.2.2.2.2.2.2.2.2.1,(F.q21 h).2.2.2.2.2.2.2.2.2.2.2.2.2.2.2.1,(F.q21 h).2.2.2.2.2.2.2.2.2.2.2.2.2.2.2.2.1,(F.q21 h).2.2.2.2.2.2.2.2.2.2.2.2.2.2.2.2.2.1,(F.q21 h).2.2.2.2.2.2.2.2.2.2.2.2.2.2.2.2.2.2.1,(F.q21 h).2.2.2.2.2.2.2.2.2.2.2.2.2.2.2.2.2.2.2.1,(F.q21 h).2.2.2.2.2.2.2.2.2.2.2.2.2.2.2.2.2.2.2.2⟩,F.f0,F.f1,fun _ => rfl,F.f3,F.f4,F.f5,F.f6,F.f7,F.f8,F.f9,F.f10,F.f11,F.f12,F.f13,F.f14,F.f15,F.f16,F.f17,F.f18,F.f19,F.f20,F.st0,F.st1,F.st2,F.st3,F.mz⟩
      clear F
      go_simp
      exact HK.out _ _ ⟨_,_,_,_,_,_,_,_,_,_,_,_,_,_,_,_,_,_,_,_,_,_,_,_,rfl,HF.out⟩
    · have HF : Hid (best11F mx tx sx b4 mb10 tb v z seen px py q s sb so sn sc S0 S1 S2 S3 (upd d_ 3) x53 x54 x55 (.int .i64 v) x57 x58 x59 x60 x61 x62 x63 x64 x65 x66 x67 x68 x69 x70 x71 x72 x11 ms r p w1) := ⟨F.q2,fun h => rfl,F.q5,F.q9,F.q10,F.q11,F.q12,F.q14,F.q15,F.q16,F.q17,F.q18,F.q19,fun h => ⟨(F.q21 h).1,(F.q21 h).2.1,(F.q21 h).2.2.1,rfl,(F.q21 h).2.2.2.2.1,(F.q21 h).2.2.2.2.2.1,(F.q21 h).2.2.2.2.2.2.1,(F.q21 h).2.2.2.2.2.2.2.1,(F.q21 h).2.2.2.2.2.2.2.2.1,(F.q21 h).2.2.2.2.2.2.2.2.2.1,(F.q21 h).2.2.2.2.2.2.2.2.2.2.1,(F.q21 h).2.2.2.2.2.2.2.2.2.2.2.1,(F.q21 h).2.2.2.2.2.2.2.2.2.2.2.2.1,(F.q21 h).2.2.2.2.2.2.2.2.2.2.2.2.2.1,(F.q21 h).2.2.2.2.2.2.2.2.2.2.2.2.2.2.1,(F.q21 h).2.2.2.2.2.2.2.2.2.2.2.2.2.2.2.1,(F.q21 h).2.2.2.2.2.2.2.2.2.2.2.2.2.2.2.2.1,(F.q21 h).2.2.2.2.2.2.2.2.2.2.2.2.2.2.2.2.2.1,(F.q21 h).2.2.2.2.2.2.2.2.2.2.2.2.2.2.2.2.2.2.1,(F.q21 h).2.2.2.2.2.2.2.2.2.2.2.2.2.2.2.2.2.2.2.1,(F.q21 h).2.2.2.2.2.2.2.2.2.2.2.2.2.2.2.2.2.2.2.2⟩,F.f0,F.f1,F.f2,fun _ => rfl,F.f4,F.f5,F.f6,F.f7,F.f8,F.f9,F.f10,F.f11,F.f12,F.f13,F.f14,F.f15,F.f16,F.f17,F.f18,F.f19,F.f20,F.st0,F.st1,F.st2,F.st3,F.mz⟩
      clear F
      go_simp
      exact HK.out _ _ ⟨_,_,_,_,_,_,_,_,_,_,_,_,_,_,_,_,_,_,_,_,_,_,_,_,rfl,HF.out⟩
    · obtain rfl := F.f3 (by simp [hdep])
      have HF : Hid (best11F mx tx sx b4 mb10 tb v z seen px py q s sb so sn sc S0 S1 S2 S3 (upd d_ 4) x53 x54 x55 (.int .i64 v) (.int .i64 z) x58 x59 x60 x61 x62 x63 x64 x65 x66 x67 x68 x69 x70 x71 x72 x11 ms r p w1) := ⟨F.q2,fun _ => (show _ from (by simp [hdep] : d_ 3 = true)),fun h => ⟨(F.q5 h).1,rfl⟩,F.q9,F.q10,F.q11,F.q12,F.q14,F.q15,F.q16,F.q17,F.q18,F.q19,fun h => ⟨(F.q21 h).1,(F.q21 h).2.1,(F.q21 h).2.2.1,(F.q21 h).2.2.2.1,rfl,(F.q21 h).2.2.2.2.2.1,(F.q21 h).2.2.2.2.2.2.1,(F.q21 h).2.2.2.2.2.2.2.1,(F.q21 h).2.2.2.2.2.2.2.2.1,(F.q21 h).2.2.2.2.2.2.2.2.2.1,(F.q21 h).2.2.2.2.2.2.2.2.2.2.1,(F.q21 h).2.2.2.2.2.2.2.2.2.2.2.1,(F.q21 h).2.2.2.2.2.2.2.2.2.2.2.2.1,(F.q21 h).2.2.2.2.2.2.2.2.2.2.2.2.2.1,(F.q21 h).2.2.2.2.2.2.2.2.2.2.2.2.2.2.1,(F.q21 h).2.2.2.2.2.2.2.2.2.2.2.2.2.2.2.1,(F.q21 h).2.2.2.2.2.2.2.2.2.2.2.2.2.2.2.2.1,(F.q21 h).2.2.2.2.2.2.2.2.2.2.2.2.2.2.2.2.2.1,(F.q21 h).2.2.2.2.2.2.2.2.2.2.2.2.2.2.2.2.2.2.1,(F.q21 h).2.2.2.2.2.2.2.2.2.2.2.2.2.2.2.2.2.2.2.1,(F.q21 h).2.2.2.2.2.2.2.2.2.2.2.2.2.2.2.2.2.2.2.2⟩,F.f0,F.f1,F.f2,F.f3,fun _ => rfl,F.f5,F.f6,F.f7,F.f8,F.f9,F.f10,F.f11,F.f12,F.f13,F.f14,F.f15,F.f16,F.f17,F.f18,F.f19,F.f20,F.st0,F.st1,F.st2,F.st3,F.mz⟩
      clear F
      go_simp
      exact HK.out _ _ ⟨_,_,_,_,_,_,_,_,_,_,_,_,_,_,_,_,_,_,_,_,_,_,_,_,rfl,HF.out⟩
    · obtain rfl := F.f2 (by simp [hdep])
      obtain rfl := F.f4 (by simp [hdep])
      have HF : Hid (best11F mx tx sx b4 mb10 tb v z seen px py q s sb so sn sc S0 S1 S2 S3 (upd d_ 5) x53 x54 (.int .i64 seen) x56 (.int .i64 z) (.int .i64 (seen ||| z : Nat)) x59 x60 x61 x62 x63 x64 x65 x66 x67 x68 x69 x70 x71 x72 x11 ms r p w1) := ⟨F.q2,F.q4,fun _ => ⟨(show _ from (by simp [hdep] : d_ 2 = true)),(show _ from (by simp [hdep] : d_ 4 = true))⟩,F.q9,F.q10,F.q11,F.q12,F.q14,F.q15,F.q16,F.q17,fun h => ⟨rfl,(F.q18 h).2.1,(F.q18 h).2.2⟩,F.q19,fun h => ⟨(F.q21 h).1,(F.q21 h).2.1,(F.q21 h).2.2.1,(F.q21 h).2.2.2.1,(F.q21 h).2.2.2.2.1,rfl,(F.q21 h).2.2.2.2.2.2.1,(F.q21 h).2.2.2.2.2.2.2.1,(F.q21 h).2.2.2.2.2.2.2.2.1,(F.q21 h).2.2.2.2.2.2.2.2.2.1,(F.q21 h).2.2.2.2.2.2.2.2.2.2.1,(F.q21 h).2.2.2.2.2.2.2.2.2.2.2.1,(F.q21 h).2.2.2.2.2.2.2.2.2.2.2.2.1,(F.q21 h).2.2.2.2.2.2.2.2.2.2.2.2.2.1,(F.q21 h).2.2.2.2.2.2.2.2.2.2.2.2.2.2.1,(F.q21 h).2.2.2.2.2.2.2.2.2.2.2.2.2.2.2.1,(F.q21 h).2.2.2.2.2.2.2.2.2.2.2.2.2.2.2.2.1,(F.q21 h).2.2.2.2.2.2.2.2.2.2.2.2.2.2.2.2.2.1,(F.q21 h).2.2.2.2.2.2.2.2.2.2.2.2.2.2.2.2.2.2.1,(F.q21 h).2.2.2.2.2.2.2.2.2.2.2.2.2.2.2.2.2.2.2.1,(F.q21 h).2.2.2.2.2.2.2.2.2.2.2.2.2.2.2.2.2.2.2.2⟩,F.f0,F.f1,F.f2,F.f3,F.f4,fun _ => rfl,F.f6,F.f7,F.f8,F.f9,F.f10,F.f11,F.f12,F.f13,F.f14,F.f15,F.f16,F.f17,F.f18,F.f19,F.f20,F.st0,F.st1,F.st2,F.st3,F.mz⟩
      clear F
      go_simp
      exact HK.out _ _ ⟨_,_,_,_,_,_,_,_,_,_,_,_,_,_,_,_,_,_,_,_,_,_,_,_,rfl,HF.out⟩
    · have HF : Hid (best11F mx tx sx b4 mb10 tb v z seen px py q s sb so sn sc S0 S1 S2 S3 (upd d_ 6) x53 x54 x55 x56 x57 x58 (.int .i64 v) x60 x61 x62 x63 x64 x65 x66 x67 x68 x69 x70 x71 x72 x11 ms r p w1) := ⟨F.q2,F.q4,F.q5,F.q9,F.q10,F.q11,F.q12,F.q14,F.q15,F.q16,F.q17,fun h => ⟨(F.q18 h).1,rfl,(F.q18 h).2.2⟩,F.q19,fun h => ⟨(F.q21 h).1,(F.q21 h).2.1,(F.q21 h).2.2.1,(F.q21 h).2.2.2.1,(F.q21 h).2.2.2.2.1,(F.q21 h).2.2.2.2.2.1,rfl,(F.q21 h).2.2.2.2.2.2.2.1,(F.q21 h).2.2.2.2.2.2.2.2.1,(F.q21 h).2.2.2.2.2.2.2.2.2.1,(F.q21 h).2.2.2.2.2.2.2.2.2.2.1,(F.q21 h).2.2.2.2.2.2.2.2.2.2.2.1,(F.q21 h).2.2.2.2.2.2.2.2.2.2.2.2.1,(F.q21 h).2.2.2.2.2.2.2.2.2.2.2.2.2.1,(F.q21 h).2.2.2.2.2.2.2.2.2.2.2.2.2.2.1,(F.q21 h).2.2.2.2.2.2.2.2.2.2.2.2.2.2.2.1,(F.q21 h).2.2.2.2.2.2.2.2.2.2.2.2.2.2.2.2.1,(F.q21 h).2.2.2.2.2.2.2.2.2.2.2.2.2.2.2.2.2.1,(F.q21 h).2.2.2.2.2.2.2.2.2.2.2.2.2.2.2.2.2.2.1,(F.q21 h).2.2.2.2.2.2.2.2.2.2.2.2.2.2.2.2.2.2.2.1,(F.q21 h).2.2.2.2.2.2.2.2.2.2.2.2.2.2.2.2.2.2.2.2⟩,F.f0,F.f1,F.f2,F.f3,F.f4,F.f5,fun _ => rfl,F.f7,F.f8,F.f9,F.f10,F.f11,F.f12,F.f13,F.f14,F.f15,F.f16,F.f17,F.f18,F.f19,F.f20,F.st0,F.st1,F.st2,F.st3,F.mz⟩
      clear F
      go_simp
      exact HK.out _ _ ⟨_,_,_,_,_,_,_,_,_,_,_,_,_,_,_,_,_,_,_,_,_,_,_,_,rfl,HF.out⟩
    · have hst : S0 (d_ 20) ms w1 := by
        have n_ : d_ 16 = false := by
          cases e_ : d_ 16 with
          | false => rfl
          | true => have h2 := (F.q16 e_).1; rw [show d_ 7 = false from hd_] at h2; cases h2
        exact (F.st0 n_)
      have kk := kl7.out (d_ 20) ms w1 hst
      obtain ⟨kk0,kk1⟩ := kk
      clear hst
      have HF : Hid (best11F mx tx sx b4 mb10 tb v z seen px py q s sb so sn sc S0 S1 S2 S3 (upd d_ 7) x53 x54 x55 x56 x57 x58 x59 (.agg #[.int .i64 px,.int .i64 py]) x61 x62 x63 x64 x65 x66 x67 x68 x69 x70 x71 x72 x11 ms r p w1) := ⟨F.q2,F.q4,F.q5,F.q9,F.q10,F.q11,F.q12,F.q14,F.q15,fun h => ⟨rfl,(F.q16 h).2⟩,F.q17,F.q18,F.q19,fun h => ⟨(F.q21 h).1,(F.q21 h).2.1,(F.q21 h).2.2.1,(F.q21 h).2.2.2.1,(F.q21 h).2.2.2.2.1,(F.q21 h).2.2.2.2.2.1,(F.q21 h).2.2.2.2.2.2.1,rfl,(F.q21 h).2.2.2.2.2.2.2.2.1,(F.q21 h).2.2.2.2.2.2.2.2.2.1,(F.q21 h).2.2.2.2.2.2.2.2.2.2.1,(F.q21 h).2.2.2.2.2.2.2.2.2.2.2.1,(F.q21 h).2.2.2.2.2.2.2.2.2.2.2.2.1,(F.q21 h).2.2.2.2.2.2.2.2.2.2.2.2.2.1,(F.q21 h).2.2.2.2.2.2.2.2.2.2.2.2.2.2.1,(F.q21 h).2.2.2.2.2.2.2.2.2.2.2.2.2.2.2.1,(F.q21 h).2.2.2.2.2.2.2.2.2.2.2.2.2.2.2.2.1,(F.q21 h).2.2.2.2.2.2.2.2.2.2.2.2.2.2.2.2.2.1,(F.q21 h).2.2.2.2.2.2.2.2.2.2.2.2.2.2.2.2.2.2.1,(F.q21 h).2.2.2.2.2.2.2.2.2.2.2.2.2.2.2.2.2.2.2.1,(F.q21 h).2.2.2.2.2.2.2.2.2.2.2.2.2.2.2.2.2.2.2.2⟩,F.f0,F.f1,F.f2,F.f3,F.f4,F.f5,F.f6,fun _ => rfl,F.f8,F.f9,F.f10,F.f11,F.f12,F.f13,F.f14,F.f15,F.f16,F.f17,F.f18,F.f19,F.f20,F.st0,F.st1,F.st2,F.st3,F.mz⟩
      clear F
      go_simp
      exact HK.out _ _ ⟨_,_,_,_,_,_,_,_,_,_,_,_,_,_,_,_,_,_,_,_,_,_,_,_,rfl,HF.out⟩
    · have hst : S0 (d_ 20) ms w1 := by
        have n_ : d_ 16 = false := by
          cases e_ : d_ 16 with
          | false => rfl
          | true => have h2 := (F.q9 (F.q10 (F.q11 (F.q12 (F.q14 (F.q15 (F.q16 e_).2)).1)))); rw [show d_ 8 = false from hd_] at h2; cases h2
        exact (F.st0 n_)
      have kk := kl8.out (d_ 20) ms w1 hst
      clear hst
      have HF : Hid (best11F mx tx sx b4 mb10 tb v z seen px py q s sb so sn sc S0 S1 S2 S3 (upd d_ 8) x53 x54 x55 x56 x57 x58 x59 x60 (.pointer (some ⟨tb,0,none⟩)) x62 x63 x64 x65 x66 x67 x68 x69 x70 x71 x72 x11 ms r p w1) := ⟨F.q2,F.q4,F.q5,fun h => rfl,F.q10,F.q11,F.q12,F.q14,F.q15,F.q16,F.q17,F.q18,F.q19,fun h => ⟨(F.q21 h).1,(F.q21 h).2.1,(F.q21 h).2.2.1,(F.q21 h).2.2.2.1,(F.q21 h).2.2.2.2.1,(F.q21 h).2.2.2.2.2.1,(F.q21 h).2.2.2.2.2.2.1,(F.q21 h).2.2.2.2.2.2.2.1,rfl,(F.q21 h).2.2.2.2.2.2.2.2.2.1,(F.q21 h).2.2.2.2.2.2.2.2.2.2.1,(F.q21 h).2.2.2.2.2.2.2.2.2.2.2.1,(F.q21 h).2.2.2.2.2.2.2.2.2.2.2.2.1,(F.q21 h).2.2.2.2.2.2.2.2.2.2.2.2.2.1,(F.q21 h).2.2.2.2.2.2.2.2.2.2.2.2.2.2.1,(F.q21 h).2.2.2.2.2.2.2.2.2.2.2.2.2.2.2.1,(F.q21 h).2.2.2.2.2.2.2.2.2.2.2.2.2.2.2.2.1,(F.q21 h).2.2.2.2.2.2.2.2.2.2.2.2.2.2.2.2.2.1,(F.q21 h).2.2.2.2.2.2.2.2.2.2.2.2.2.2.2.2.2.2.1,(F.q21 h).2.2.2.2.2.2.2.2.2.2.2.2.2.2.2.2.2.2.2.1,(F.q21 h).2.2.2.2.2.2.2.2.2.2.2.2.2.2.2.2.2.2.2.2⟩,F.f0,F.f1,F.f2,F.f3,F.f4,F.f5,F.f6,F.f7,fun _ => rfl,F.f9,F.f10,F.f11,F.f12,F.f13,F.f14,F.f15,F.f16,F.f17,F.f18,F.f19,F.f20,F.st0,F.st1,F.st2,F.st3,F.mz⟩
      clear F
      go_simp
      exact HK.out _ _ ⟨_,_,_,_,_,_,_,_,_,_,_,_,_,_,_,_,_,_,_,_,_,_,_,_,rfl,HF.out⟩
    · obtain rfl := F.f8 (by simp [hdep])
      have HF : Hid (best11F mx tx sx b4 mb10 tb v z seen px py q s sb so sn sc S0 S1 S2 S3 (upd d_ 9) x53 x54 x55 x56 x57 x58 x59 x60 (.pointer (some ⟨tb,0,none⟩)) (.pointer (some ⟨tb,0,none⟩)) x63 x64 x65 x66 x67 x68 x69 x70 x71 x72 x11 ms r p w1) := ⟨F.q2,F.q4,F.q5,fun _ => (show _ from (by simp [hdep] : d_ 8 = true)),fun h => rfl,F.q11,F.q12,F.q14,F.q15,F.q16,F.q17,F.q18,F.q19,fun h => ⟨(F.q21 h).1,(F.q21 h).2.1,(F.q21 h).2.2.1,(F.q21 h).2.2.2.1,(F.q21 h).2.2.2.2.1,(F.q21 h).2.2.2.2.2.1,(F.q21 h).2.2.2.2.2.2.1,(F.q21 h).2.2.2.2.2.2.2.1,(F.q21 h).2.2.2.2.2.2.2.2.1,rfl,(F.q21 h).2.2.2.2.2.2.2.2.2.2.1,(F.q21 h).2.2.2.2.2.2.2.2.2.2.2.1,(F.q21 h).2.2.2.2.2.2.2.2.2.2.2.2.1,(F.q21 h).2.2.2.2.2.2.2.2.2.2.2.2.2.1,(F.q21 h).2.2.2.2.2.2.2.2.2.2.2.2.2.2.1,(F.q21 h).2.2.2.2.2.2.2.2.2.2.2.2.2.2.2.1,(F.q21 h).2.2.2.2.2.2.2.2.2.2.2.2.2.2.2.2.1,(F.q21 h).2.2.2.2.2.2.2.2.2.2.2.2.2.2.2.2.2.1,(F.q21 h).2.2.2.2.2.2.2.2.2.2.2.2.2.2.2.2.2.2.1,(F.q21 h).2.2.2.2.2.2.2.2.2.2.2.2.2.2.2.2.2.2.2.1,(F.q21 h).2.2.2.2.2.2.2.2.2.2.2.2.2.2.2.2.2.2.2.2⟩,F.f0,F.f1,F.f2,F.f3,F.f4,F.f5,F.f6,F.f7,F.f8,fun _ => rfl,F.f10,F.f11,F.f12,F.f13,F.f14,F.f15,F.f16,F.f17,F.f18,F.f19,F.f20,F.st0,F.st1,F.st2,F.st3,F.mz⟩
      clear F
      go_simp
      exact HK.out _ _ ⟨_,_,_,_,_,_,_,_,_,_,_,_,_,_,_,_,_,_,_,_,_,_,_,_,rfl,HF.out⟩
    · obtain rfl := F.f9 (by simp [hdep])
      have HF : Hid (best11F mx tx sx b4 mb10 tb v z seen px py q s sb so sn sc S0 S1 S2 S3 (upd d_ 10) x53 x54 x55 x56 x57 x58 x59 x60 x61 (.pointer (some ⟨tb,0,none⟩)) (.pointer (some ⟨tb,0,none⟩)) x64 x65 x66 x67 x68 x69 x70 x71 x72 x11 ms r p w1) := ⟨F.q2,F.q4,F.q5,F.q9,fun _ => (show _ from (by simp [hdep] : d_ 9 = true)),fun h => rfl,F.q12,F.q14,F.q15,F.q16,F.q17,F.q18,F.q19,fun h => ⟨(F.q21 h).1,(F.q21 h).2.1,(F.q21 h).2.2.1,(F.q21 h).2.2.2.1,(F.q21 h).2.2.2.2.1,(F.q21 h).2.2.2.2.2.1,(F.q21 h).2.2.2.2.2.2.1,(F.q21 h).2.2.2.2.2.2.2.1,(F.q21 h).2.2.2.2.2.2.2.2.1,(F.q21 h).2.2.2.2.2.2.2.2.2.1,rfl,(F.q21 h).2.2.2.2.2.2.2.2.2.2.2.1,(F.q21 h).2.2.2.2.2.2.2.2.2.2.2.2.1,(F.q21 h).2.2.2.2.2.2.2.2.2.2.2.2.2.1,(F.q21 h).2.2.2.2.2.2.2.2.2.2.2.2.2.2.1,(F.q21 h).2.2.2.2.2.2.2.2.2.2.2.2.2.2.2.1,(F.q21 h).2.2.2.2.2.2.2.2.2.2.2.2.2.2.2.2.1,(F.q21 h).2.2.2.2.2.2.2.2.2.2.2.2.2.2.2.2.2.1,(F.q21 h).2.2.2.2.2.2.2.2.2.2.2.2.2.2.2.2.2.2.1,(F.q21 h).2.2.2.2.2.2.2.2.2.2.2.2.2.2.2.2.2.2.2.1,(F.q21 h).2.2.2.2.2.2.2.2.2.2.2.2.2.2.2.2.2.2.2.2⟩,F.f0,F.f1,F.f2,F.f3,F.f4,F.f5,F.f6,F.f7,F.f8,F.f9,fun _ => rfl,F.f11,F.f12,F.f13,F.f14,F.f15,F.f16,F.f17,F.f18,F.f19,F.f20,F.st0,F.st1,F.st2,F.st3,F.mz⟩
      clear F
      go_simp
      exact HK.out _ _ ⟨_,_,_,_,_,_,_,_,_,_,_,_,_,_,_,_,_,_,_,_,_,_,_,_,rfl,HF.out⟩
    · obtain rfl := F.f10 (by simp [hdep])
      have HF : Hid (best11F mx tx sx b4 mb10 tb v z seen px py q s sb so sn sc S0 S1 S2 S3 (upd d_ 11) x53 x54 x55 x56 x57 x58 x59 x60 x61 x62 (.pointer (some ⟨tb,0,none⟩)) (.pointer (some ⟨tb,3,none⟩)) x65 x66 x67 x68 x69 x70 x71 x72 x11 ms r p w1) := ⟨F.q2,F.q4,F.q5,F.q9,F.q10,fun _ => (show _ from (by simp [hdep] : d_ 10 = true)),fun h => rfl,F.q14,F.q15,F.q16,F.q17,F.q18,F.q19,fun h => ⟨(F.q21 h).1,(F.q21 h).2.1,(F.q21 h).2.2.1,(F.q21 h).2.2.2.1,(F.q21 h).2.2.2.2.1,(F.q21 h).2.2.2.2.2.1,(F.q21 h).2.2.2.2.2.2.1,(F.q21 h).2.2.2.2.2.2.2.1,(F.q21 h).2.2.2.2.2.2.2.2.1,(F.q21 h).2.2.2.2.2.2.2.2.2.1,(F.q21 h).2.2.2.2.2.2.2.2.2.2.1,rfl,(F.q21 h).2.2.2.2.2.2.2.2.2.2.2.2.1,(F.q21 h).2.2.2.2.2.2.2.2.2.2.2.2.2.1,(F.q21 h).2.2.2.2.2.2.2.2.2.2.2.2.2.2.1,(F.q21 h).2.2.2.2.2.2.2.2.2.2.2.2.2.2.2.1,(F.q21 h).2.2.2.2.2.2.2.2.2.2.2.2.2.2.2.2.1,(F.q21 h).2.2.2.2.2.2.2.2.2.2.2.2.2.2.2.2.2.1,(F.q21 h).2.2.2.2.2.2.2.2.2.2.2.2.2.2.2.2.2.2.1,(F.q21 h).2.2.2.2.2.2.2.2.2.2.2.2.2.2.2.2.2.2.2.1,(F.q21 h).2.2.2.2.2.2.2.2.2.2.2.2.2.2.2.2.2.2.2.2⟩,F.f0,F.f1,F.f2,F.f3,F.f4,F.f5,F.f6,F.f7,F.f8,F.f9,F.f10,fun _ => rfl,F.f12,F.f13,F.f14,F.f15,F.f16,F.f17,F.f18,F.f19,F.f20,F.st0,F.st1,F.st2,F.st3,F.mz⟩
      clear F
      go_simp
      exact HK.out _ _ ⟨_,_,_,_,_,_,_,_,_,_,_,_,_,_,_,_,_,_,_,_,_,_,_,_,rfl,HF.out⟩
    · have hst : S0 (d_ 20) ms w1 := by
        have n_ : d_ 16 = false := by
          cases e_ : d_ 16 with
          | false => rfl
          | true => have h2 := (F.q14 (F.q15 (F.q16 e_).2)).1; rw [show d_ 12 = false from hd_] at h2; cases h2
        exact (F.st0 n_)
      have kk := kl12.out (d_ 20) ms w1 hst
      clear hst
      obtain rfl := F.f11 (by simp [hdep])
      have HF : Hid (best11F mx tx sx b4 mb10 tb v z seen px py q s sb so sn sc S0 S1 S2 S3 (upd d_ 12) x53 x54 x55 x56 x57 x58 x59 x60 x61 x62 x63 (.pointer (some ⟨tb,3,none⟩)) (.slice (some ⟨sb,so,none⟩) sn sc) x66 x67 x68 x69 x70 x71 x72 x11 ms r p w1) := ⟨F.q2,F.q4,F.q5,F.q9,F.q10,F.q11,fun _ => (show _ from (by simp [hdep] : d_ 11 = true)),fun h => ⟨rfl,(F.q14 h).2⟩,F.q15,F.q16,F.q17,F.q18,F.q19,fun h => ⟨(F.q21 h).1,(F.q21 h).2.1,(F.q21 h).2.2.1,(F.q21 h).2.2.2.1,(F.q21 h).2.2.2.2.1,(F.q21 h).2.2.2.2.2.1,(F.q21 h).2.2.2.2.2.2.1,(F.q21 h).2.2.2.2.2.2.2.1,(F.q21 h).2.2.2.2.2.2.2.2.1,(F.q21 h).2.2.2.2.2.2.2.2.2.1,(F.q21 h).2.2.2.2.2.2.2.2.2.2.1,(F.q21 h).2.2.2.2.2.2.2.2.2.2.2.1,rfl,(F.q21 h).2.2.2.2.2.2.2.2.2.2.2.2.2.1,(F.q21 h).2.2.2.2.2.2.2.2.2.2.2.2.2.2.1,(F.q21 h).2.2.2.2.2.2.2.2.2.2.2.2.2.2.2.1,(F.q21 h).2.2.2.2.2.2.2.2.2.2.2.2.2.2.2.2.1,(F.q21 h).2.2.2.2.2.2.2.2.2.2.2.2.2.2.2.2.2.1,(F.q21 h).2.2.2.2.2.2.2.2.2.2.2.2.2.2.2.2.2.2.1,(F.q21 h).2.2.2.2.2.2.2.2.2.2.2.2.2.2.2.2.2.2.2.1,(F.q21 h).2.2.2.2.2.2.2.2.2.2.2.2.2.2.2.2.2.2.2.2⟩,F.f0,F.f1,F.f2,F.f3,F.f4,F.f5,F.f6,F.f7,F.f8,F.f9,F.f10,F.f11,fun _ => rfl,F.f13,F.f14,F.f15,F.f16,F.f17,F.f18,F.f19,F.f20,F.st0,F.st1,F.st2,F.st3,F.mz⟩
      clear F
      go_simp
      exact HK.out _ _ ⟨_,_,_,_,_,_,_,_,_,_,_,_,_,_,_,_,_,_,_,_,_,_,_,_,rfl,HF.out⟩
    · have HF : Hid (best11F mx tx sx b4 mb10 tb v z seen px py q s sb so sn sc S0 S1 S2 S3 (upd d_ 13) x53 x54 x55 x56 x57 x58 x59 x60 x61 x62 x63 x64 x65 (.int .i64 v) x67 x68 x69 x70 x71 x72 x11 ms r p w1) := ⟨F.q2,F.q4,F.q5,F.q9,F.q10,F.q11,F.q12,fun h => ⟨(F.q14 h).1,rfl⟩,F.q15,F.q16,F.q17,F.q18,F.q19,fun h => ⟨(F.q21 h).1,(F.q21 h).2.1,(F.q21 h).2.2.1,(F.q21 h).2.2.2.1,(F.q21 h).2.2.2.2.1,(F.q21 h).2.2.2.2.2.1,(F.q21 h).2.2.2.2.2.2.1,(F.q21 h).2.2.2.2.2.2.2.1,(F.q21 h).2.2.2.2.2.2.2.2.1,(F.q21 h).2.2.2.2.2.2.2.2.2.1,(F.q21 h).2.2.2.2.2.2.2.2.2.2.1,(F.q21 h).2.2.2.2.2.2.2.2.2.2.2.1,(F.q21 h).2.2.2.2.2.2.2.2.2.2.2.2.1,rfl,(F.q21 h).2.2.2.2.2.2.2.2.2.2.2.2.2.2.1,(F.q21 h).2.2.2.2.2.2.2.2.2.2.2.2.2.2.2.1,(F.q21 h).2.2.2.2.2.2.2.2.2.2.2.2.2.2.2.2.1,(F.q21 h).2.2.2.2.2.2.2.2.2.2.2.2.2.2.2.2.2.1,(F.q21 h).2.2.2.2.2.2.2.2.2.2.2.2.2.2.2.2.2.2.1,(F.q21 h).2.2.2.2.2.2.2.2.2.2.2.2.2.2.2.2.2.2.2.1,(F.q21 h).2.2.2.2.2.2.2.2.2.2.2.2.2.2.2.2.2.2.2.2⟩,F.f0,F.f1,F.f2,F.f3,F.f4,F.f5,F.f6,F.f7,F.f8,F.f9,F.f10,F.f11,F.f12,fun _ => rfl,F.f14,F.f15,F.f16,F.f17,F.f18,F.f19,F.f20,F.st0,F.st1,F.st2,F.st3,F.mz⟩
      clear F
      go_simp
      exact HK.out _ _ ⟨_,_,_,_,_,_,_,_,_,_,_,_,_,_,_,_,_,_,_,_,_,_,_,_,rfl,HF.out⟩
    · obtain rfl := F.f12 (by simp [hdep])
      obtain rfl := F.f13 (by simp [hdep])
      have HF : Hid (best11F mx tx sx b4 mb10 tb v z seen px py q s sb so sn sc S0 S1 S2 S3 (upd d_ 14) x53 x54 x55 x56 x57 x58 x59 x60 x61 x62 x63 x64 (.slice (some ⟨sb,so,none⟩) sn sc) (.int .i64 v) (.pointer (some ⟨sb,so + v * 2,none⟩)) x68 x69 x70 x71 x72 x11 ms r p w1) := ⟨F.q2,F.q4,F.q5,F.q9,F.q10,F.q11,F.q12,fun _ => ⟨(show _ from (by simp [hdep] : d_ 12 = true)),(show _ from (by simp [hdep] : d_ 13 = true))⟩,fun h => rfl,F.q16,F.q17,F.q18,F.q19,fun h => ⟨(F.q21 h).1,(F.q21 h).2.1,(F.q21 h).2.2.1,(F.q21 h).2.2.2.1,(F.q21 h).2.2.2.2.1,(F.q21 h).2.2.2.2.2.1,(F.q21 h).2.2.2.2.2.2.1,(F.q21 h).2.2.2.2.2.2.2.1,(F.q21 h).2.2.2.2.2.2.2.2.1,(F.q21 h).2.2.2.2.2.2.2.2.2.1,(F.q21 h).2.2.2.2.2.2.2.2.2.2.1,(F.q21 h).2.2.2.2.2.2.2.2.2.2.2.1,(F.q21 h).2.2.2.2.2.2.2.2.2.2.2.2.1,(F.q21 h).2.2.2.2.2.2.2.2.2.2.2.2.2.1,rfl,(F.q21 h).2.2.2.2.2.2.2.2.2.2.2.2.2.2.2.1,(F.q21 h).2.2.2.2.2.2.2.2.2.2.2.2.2.2.2.2.1,(F.q21 h).2.2.2.2.2.2.2.2.2.2.2.2.2.2.2.2.2.1,(F.q21 h).2.2.2.2.2.2.2.2.2.2.2.2.2.2.2.2.2.2.1,(F.q21 h).2.2.2.2.2.2.2.2.2.2.2.2.2.2.2.2.2.2.2.1,(F.q21 h).2.2.2.2.2.2.2.2.2.2.2.2.2.2.2.2.2.2.2.2⟩,F.f0,F.f1,F.f2,F.f3,F.f4,F.f5,F.f6,F.f7,F.f8,F.f9,F.f10,F.f11,F.f12,F.f13,fun _ => rfl,F.f15,F.f16,F.f17,F.f18,F.f19,F.f20,F.st0,F.st1,F.st2,F.st3,F.mz⟩
      clear F
      have hvn2 : v < sn := hvn
      go_simp
      exact HK.out _ _ ⟨_,_,_,_,_,_,_,_,_,_,_,_,_,_,_,_,_,_,_,_,_,_,_,_,rfl,HF.out⟩
    · have hst : S0 (d_ 20) ms w1 := by
        have n_ : d_ 16 = false := by
          cases e_ : d_ 16 with
          | false => rfl
          | true => have h2 := (F.q16 e_).2; rw [show d_ 15 = false from hd_] at h2; cases h2
        exact (F.st0 n_)
      have kk := kl15.out (d_ 20) ms w1 hst
      obtain ⟨kk0,kk1⟩ := kk
      clear hst
      obtain rfl := F.f14 (by simp [hdep])
      have HF : Hid (best11F mx tx sx b4 mb10 tb v z seen px py q s sb so sn sc S0 S1 S2 S3 (upd d_ 15) x53 x54 x55 x56 x57 x58 x59 x60 x61 x62 x63 x64 x65 x66 (.pointer (some ⟨sb,so + v * 2,none⟩)) (.agg #[.int .i64 s.lo,.int .i64 s.hi]) x69 x70 x71 x72 x11 ms r p w1) := ⟨F.q2,F.q4,F.q5,F.q9,F.q10,F.q11,F.q12,F.q14,fun _ => (show _ from (by simp [hdep] : d_ 14 = true)),fun h => ⟨(F.q16 h).1,rfl⟩,F.q17,F.q18,F.q19,fun h => ⟨(F.q21 h).1,(F.q21 h).2.1,(F.q21 h).2.2.1,(F.q21 h).2.2.2.1,(F.q21 h).2.2.2.2.1,(F.q21 h).2.2.2.2.2.1,(F.q21 h).2.2.2.2.2.2.1,(F.q21 h).2.2.2.2.2.2.2.1,(F.q21 h).2.2.2.2.2.2.2.2.1,(F.q21 h).2.2.2.2.2.2.2.2.2.1,(F.q21 h).2.2.2.2.2.2.2.2.2.2.1,(F.q21 h).2.2.2.2.2.2.2.2.2.2.2.1,(F.q21 h).2.2.2.2.2.2.2.2.2.2.2.2.1,(F.q21 h).2.2.2.2.2.2.2.2.2.2.2.2.2.1,(F.q21 h).2.2.2.2.2.2.2.2.2.2.2.2.2.2.1,rfl,(F.q21 h).2.2.2.2.2.2.2.2.2.2.2.2.2.2.2.2.1,(F.q21 h).2.2.2.2.2.2.2.2.2.2.2.2.2.2.2.2.2.1,(F.q21 h).2.2.2.2.2.2.2.2.2.2.2.2.2.2.2.2.2.2.1,(F.q21 h).2.2.2.2.2.2.2.2.2.2.2.2.2.2.2.2.2.2.2.1,(F.q21 h).2.2.2.2.2.2.2.2.2.2.2.2.2.2.2.2.2.2.2.2⟩,F.f0,F.f1,F.f2,F.f3,F.f4,F.f5,F.f6,F.f7,F.f8,F.f9,F.f10,F.f11,F.f12,F.f13,F.f14,fun _ => rfl,F.f16,F.f17,F.f18,F.f19,F.f20,F.st0,F.st1,F.st2,F.st3,F.mz⟩
      clear F
      go_simp
      exact HK.out _ _ ⟨_,_,_,_,_,_,_,_,_,_,_,_,_,_,_,_,_,_,_,_,_,_,_,_,rfl,HF.out⟩
    · have hS := F.st0  hd_
      obtain rfl := F.f7 (by simp [hdep])
      obtain rfl := F.f15 (by simp [hdep])
      have hc := kc16.out (d_ 20) ms w1 hS
      have HF := Lib.hid F
      clear F
      go_simp
      refine ⟨trivial,rfl,wideAt_calls (hc.mono ?_)⟩
      rintro e w5 ⟨v_,rfl,hres⟩
      exact HK.out _ _ ⟨_,_,_,_,_,_,_,_,_,_,_,_,_,_,_,_,_,_,_,_,_,ms,v_,p,rfl,⟨HF.out.q2,HF.out.q4,HF.out.q5,HF.out.q9,HF.out.q10,HF.out.q11,HF.out.q12,HF.out.q14,HF.out.q15,fun _ => ⟨(show _ from (by simp [hdep] : d_ 7 = true)),(show _ from (by simp [hdep] : d_ 15 = true))⟩,fun h => rfl,HF.out.q18,fun h => ⟨(HF.out.q19 h).1,rfl,(HF.out.q19 h).2.2⟩,fun h => ⟨(HF.out.q21 h).1,(HF.out.q21 h).2.1,(HF.out.q21 h).2.2.1,(HF.out.q21 h).2.2.2.1,(HF.out.q21 h).2.2.2.2.1,(HF.out.q21 h).2.2.2.2.2.1,(HF.out.q21 h).2.2.2.2.2.2.1,(HF.out.q21 h).2.2.2.2.2.2.2.1,(HF.out.q21 h).2.2.2.2.2.2.2.2.1,(HF.out.q21 h).2.2.2.2.2.2.2.2.2.1,(HF.out.q21 h).2.2.2.2.2.2.2.2.2.2.1,(HF.out.q21 h).2.2.2.2.2.2.2.2.2.2.2.1,(HF.out.q21 h).2.2.2.2.2.2.2.2.2.2.2.2.1,(HF.out.q21 h).2.2.2.2.2.2.2.2.2.2.2.2.2.1,(HF.out.q21 h).2.2.2.2.2.2.2.2.2.2.2.2.2.2.1,(HF.out.q21 h).2.2.2.2.2.2.2.2.2.2.2.2.2.2.2.1,rfl,(HF.out.q21 h).2.2.2.2.2.2.2.2.2.2.2.2.2.2.2.2.2.1,(HF.out.q21 h).2.2.2.2.2.2.2.2.2.2.2.2.2.2.2.2.2.2.1,(HF.out.q21 h).2.2.2.2.2.2.2.2.2.2.2.2.2.2.2.2.2.2.2.1,(HF.out.q21 h).2.2.2.2.2.2.2.2.2.2.2.2.2.2.2.2.2.2.2.2⟩,HF.out.f0,HF.out.f1,HF.out.f2,HF.out.f3,HF.out.f4,HF.out.f5,HF.out.f6,HF.out.f7,HF.out.f8,HF.out.f9,HF.out.f10,HF.out.f11,HF.out.f12,HF.out.f13,HF.out.f14,HF.out.f15,fun _ => rfl,HF.out.f17,HF.out.f18,HF.out.f19,HF.out.f20,fun h => (by simp [upd] at h),fun _ _ => hres,fun h _ => (by have h2 : d_ 16 = true := (HF.out.q19 h).2.1; rw [show d_ 16 = false from hd_] at h2; cases h2),fun h => (by have h2 : d_ 16 = true := (HF.out.q21 h).2.2.2.2.2.2.2.2.2.2.2.2.2.2.2.2.1; rw [show d_ 16 = false from hd_] at h2; cases h2),HF.out.mz⟩⟩
    · obtain rfl := F.f16 (by simp [hdep])
      have HF : Hid (best11F mx tx sx b4 mb10 tb v z seen px py q s sb so sn sc S0 S1 S2 S3 (upd d_ 17) x53 x54 x55 x56 x57 x58 x59 x60 x61 x62 x63 x64 x65 x66 x67 x68 (.agg #[.int .i64 r,.int .i64 q]) (.int .i64 q) x71 x72 x11 ms r p w1) := ⟨F.q2,F.q4,F.q5,F.q9,F.q10,F.q11,F.q12,F.q14,F.q15,F.q16,fun _ => (show _ from (by simp [hdep] : d_ 16 = true)),fun h => ⟨(F.q18 h).1,(F.q18 h).2.1,rfl⟩,F.q19,fun h => ⟨(F.q21 h).1,(F.q21 h).2.1,(F.q21 h).2.2.1,(F.q21 h).2.2.2.1,(F.q21 h).2.2.2.2.1,(F.q21 h).2.2.2.2.2.1,(F.q21 h).2.2.2.2.2.2.1,(F.q21 h).2.2.2.2.2.2.2.1,(F.q21 h).2.2.2.2.2.2.2.2.1,(F.q21 h).2.2.2.2.2.2.2.2.2.1,(F.q21 h).2.2.2.2.2.2.2.2.2.2.1,(F.q21 h).2.2.2.2.2.2.2.2.2.2.2.1,(F.q21 h).2.2.2.2.2.2.2.2.2.2.2.2.1,(F.q21 h).2.2.2.2.2.2.2.2.2.2.2.2.2.1,(F.q21 h).2.2.2.2.2.2.2.2.2.2.2.2.2.2.1,(F.q21 h).2.2.2.2.2.2.2.2.2.2.2.2.2.2.2.1,(F.q21 h).2.2.2.2.2.2.2.2.2.2.2.2.2.2.2.2.1,rfl,(F.q21 h).2.2.2.2.2.2.2.2.2.2.2.2.2.2.2.2.2.2.1,(F.q21 h).2.2.2.2.2.2.2.2.2.2.2.2.2.2.2.2.2.2.2.1,(F.q21 h).2.2.2.2.2.2.2.2.2.2.2.2.2.2.2.2.2.2.2.2⟩,F.f0,F.f1,F.f2,F.f3,F.f4,F.f5,F.f6,F.f7,F.f8,F.f9,F.f10,F.f11,F.f12,F.f13,F.f14,F.f15,F.f16,fun _ => rfl,F.f18,F.f19,F.f20,F.st0,F.st1,F.st2,F.st3,F.mz⟩
      clear F
      go_simp
      exact HK.out _ _ ⟨_,_,_,_,_,_,_,_,_,_,_,_,_,_,_,_,_,_,_,_,_,_,_,_,rfl,HF.out⟩
    · obtain rfl := F.f5 (by simp [hdep])
      obtain rfl := F.f6 (by simp [hdep])
      obtain rfl := F.f17 (by simp [hdep])
      have HF : Hid (best11F mx tx sx b4 mb10 tb v z seen px py q s sb so sn sc S0 S1 S2 S3 (upd d_ 18) x53 x54 x55 x56 x57 (.int .i64 (seen ||| z : Nat)) (.int .i64 v) x60 x61 x62 x63 x64 x65 x66 x67 x68 x69 (.int .i64 q) (.agg #[.int .i64 (seen ||| z : Nat),.int .i64 v,.int .i64 q]) x72 x11 ms r p w1) := ⟨F.q2,F.q4,F.q5,F.q9,F.q10,F.q11,F.q12,F.q14,F.q15,F.q16,F.q17,fun _ => ⟨(show _ from (by simp [hdep] : d_ 5 = true)),(show _ from (by simp [hdep] : d_ 6 = true)),(show _ from (by simp [hdep] : d_ 17 = true))⟩,fun h => ⟨(F.q19 h).1,(F.q19 h).2.1,rfl⟩,fun h => ⟨(F.q21 h).1,(F.q21 h).2.1,(F.q21 h).2.2.1,(F.q21 h).2.2.2.1,(F.q21 h).2.2.2.2.1,(F.q21 h).2.2.2.2.2.1,(F.q21 h).2.2.2.2.2.2.1,(F.q21 h).2.2.2.2.2.2.2.1,(F.q21 h).2.2.2.2.2.2.2.2.1,(F.q21 h).2.2.2.2.2.2.2.2.2.1,(F.q21 h).2.2.2.2.2.2.2.2.2.2.1,(F.q21 h).2.2.2.2.2.2.2.2.2.2.2.1,(F.q21 h).2.2.2.2.2.2.2.2.2.2.2.2.1,(F.q21 h).2.2.2.2.2.2.2.2.2.2.2.2.2.1,(F.q21 h).2.2.2.2.2.2.2.2.2.2.2.2.2.2.1,(F.q21 h).2.2.2.2.2.2.2.2.2.2.2.2.2.2.2.1,(F.q21 h).2.2.2.2.2.2.2.2.2.2.2.2.2.2.2.2.1,(F.q21 h).2.2.2.2.2.2.2.2.2.2.2.2.2.2.2.2.2.1,rfl,(F.q21 h).2.2.2.2.2.2.2.2.2.2.2.2.2.2.2.2.2.2.2.1,(F.q21 h).2.2.2.2.2.2.2.2.2.2.2.2.2.2.2.2.2.2.2.2⟩,F.f0,F.f1,F.f2,F.f3,F.f4,F.f5,F.f6,F.f7,F.f8,F.f9,F.f10,F.f11,F.f12,F.f13,F.f14,F.f15,F.f16,F.f17,fun _ => rfl,F.f19,F.f20,F.st0,F.st1,F.st2,F.st3,F.mz⟩
      clear F
      go_simp
      exact HK.out _ _ ⟨_,_,_,_,_,_,_,_,_,_,_,_,_,_,_,_,_,_,_,_,_,_,_,_,rfl,HF.out⟩
    · have hS := F.st1 (by simp [hdep] : d_ 16 = true) hd_
      obtain rfl := F.f0 (by simp [hdep])
      obtain rfl := F.f18 (by simp [hdep])
      have hc := kc19.out (d_ 20) ms r w1 hS
      have HF := Lib.hid F
      clear F
      go_simp
      refine ⟨trivial,rfl,wideAt_calls (hc.mono ?_)⟩
      rintro e w5 ⟨v_,rfl,hres⟩
      exact HK.out _ _ ⟨_,_,_,_,_,_,_,_,_,_,_,_,_,_,_,_,_,_,_,_,_,ms,r,v_,rfl,⟨HF.out.q2,HF.out.q4,HF.out.q5,HF.out.q9,HF.out.q10,HF.out.q11,HF.out.q12,HF.out.q14,HF.out.q15,HF.out.q16,HF.out.q17,HF.out.q18,fun _ => ⟨(show _ from (by simp [hdep] : d_ 0 = true)),(show _ from (by simp [hdep] : d_ 16 = true)),(show _ from (by simp [hdep] : d_ 18 = true))⟩,fun h => ⟨(HF.out.q21 h).1,(HF.out.q21 h).2.1,(HF.out.q21 h).2.2.1,(HF.out.q21 h).2.2.2.1,(HF.out.q21 h).2.2.2.2.1,(HF.out.q21 h).2.2.2.2.2.1,(HF.out.q21 h).2.2.2.2.2.2.1,(HF.out.q21 h).2.2.2.2.2.2.2.1,(HF.out.q21 h).2.2.2.2.2.2.2.2.1,(HF.out.q21 h).2.2.2.2.2.2.2.2.2.1,(HF.out.q21 h).2.2.2.2.2.2.2.2.2.2.1,(HF.out.q21 h).2.2.2.2.2.2.2.2.2.2.2.1,(HF.out.q21 h).2.2.2.2.2.2.2.2.2.2.2.2.1,(HF.out.q21 h).2.2.2.2.2.2.2.2.2.2.2.2.2.1,(HF.out.q21 h).2.2.2.2.2.2.2.2.2.2.2.2.2.2.1,(HF.out.q21 h).2.2.2.2.2.2.2.2.2.2.2.2.2.2.2.1,(HF.out.q21 h).2.2.2.2.2.2.2.2.2.2.2.2.2.2.2.2.1,(HF.out.q21 h).2.2.2.2.2.2.2.2.2.2.2.2.2.2.2.2.2.1,(HF.out.q21 h).2.2.2.2.2.2.2.2.2.2.2.2.2.2.2.2.2.2.1,rfl,(HF.out.q21 h).2.2.2.2.2.2.2.2.2.2.2.2.2.2.2.2.2.2.2.2⟩,HF.out.f0,HF.out.f1,HF.out.f2,HF.out.f3,HF.out.f4,HF.out.f5,HF.out.f6,HF.out.f7,HF.out.f8,HF.out.f9,HF.out.f10,HF.out.f11,HF.out.f12,HF.out.f13,HF.out.f14,HF.out.f15,HF.out.f16,HF.out.f17,HF.out.f18,fun _ => rfl,HF.out.f20,fun h => (by have h2 : d_ 16 = false := h; rw [(by simp [hdep] : d_ 16 = true)] at h2; cases h2),fun _ h => (by simp [upd] at h),fun _ _ => hres,fun h => (by have h2 : d_ 19 = true := (HF.out.q21 h).2.2.2.2.2.2.2.2.2.2.2.2.2.2.2.2.2.2.2.1; rw [show d_ 19 = false from hd_] at h2; cases h2),HF.out.mz⟩⟩
    · have HF : Hid (best11F mx tx sx b4 mb10 tb v z seen px py q s sb so sn sc S0 S1 S2 S3 (upd d_ 20) x53 x54 x55 x56 x57 x58 x59 x60 x61 x62 x63 x64 x65 x66 x67 x68 x69 x70 x71 x72 (.pointer (some ⟨w1.heap.size,0,none⟩)) w1.heap.size r p (w1.alloc (.cells #[.slice none 0 0,.int .i64 0] 98))) := ⟨F.q2,F.q4,F.q5,F.q9,F.q10,F.q11,F.q12,F.q14,F.q15,F.q16,F.q17,F.q18,F.q19,fun h => ⟨(F.q21 h).1,(F.q21 h).2.1,(F.q21 h).2.2.1,(F.q21 h).2.2.2.1,(F.q21 h).2.2.2.2.1,(F.q21 h).2.2.2.2.2.1,(F.q21 h).2.2.2.2.2.2.1,(F.q21 h).2.2.2.2.2.2.2.1,(F.q21 h).2.2.2.2.2.2.2.2.1,(F.q21 h).2.2.2.2.2.2.2.2.2.1,(F.q21 h).2.2.2.2.2.2.2.2.2.2.1,(F.q21 h).2.2.2.2.2.2.2.2.2.2.2.1,(F.q21 h).2.2.2.2.2.2.2.2.2.2.2.2.1,(F.q21 h).2.2.2.2.2.2.2.2.2.2.2.2.2.1,(F.q21 h).2.2.2.2.2.2.2.2.2.2.2.2.2.2.1,(F.q21 h).2.2.2.2.2.2.2.2.2.2.2.2.2.2.2.1,(F.q21 h).2.2.2.2.2.2.2.2.2.2.2.2.2.2.2.2.1,(F.q21 h).2.2.2.2.2.2.2.2.2.2.2.2.2.2.2.2.2.1,(F.q21 h).2.2.2.2.2.2.2.2.2.2.2.2.2.2.2.2.2.2.1,(F.q21 h).2.2.2.2.2.2.2.2.2.2.2.2.2.2.2.2.2.2.2.1,rfl⟩,F.f0,F.f1,F.f2,F.f3,F.f4,F.f5,F.f6,F.f7,F.f8,F.f9,F.f10,F.f11,F.f12,F.f13,F.f14,F.f15,F.f16,F.f17,F.f18,F.f19,fun _ => rfl,fun b => ks0.out w1 (by have h := F.st0 b; rw [show d_ 20 = false from hd_,F.mz hd_] at h; exact h),fun a b => ks1.out r w1 (by have h := F.st1 a b; rw [show d_ 20 = false from hd_,F.mz hd_] at h; exact h),fun a b => ks2.out r p w1 (by have h := F.st2 a b; rw [show d_ 20 = false from hd_,F.mz hd_] at h; exact h),fun a => (by have h2 : d_ 20 = true := (F.q21 a).2.2.2.2.2.2.2.2.2.2.2.2.2.2.2.2.2.2.2.2; rw [show d_ 20 = false from hd_] at h2; cases h2),fun h => (by simp [upd] at h)⟩
      clear F
      go_simp
      exact HK.out _ _ ⟨_,_,_,_,_,_,_,_,_,_,_,_,_,_,_,_,_,_,_,_,_,_,_,_,rfl,HF.out⟩
    · have hS := F.st2 (by simp [hdep] : d_ 19 = true) hd_
      rw [show d_ 20 = true from (by simp [hdep] : d_ 20 = true)] at hS
      obtain rfl := F.f19 (by simp [hdep])
      obtain rfl := F.f20 (by simp [hdep])
      obtain ⟨⟨ku0,kcell0⟩,kfr0,⟨ku1,kcell1⟩,kfr1,hres⟩ := kc21.out ms r p w1 hS
      have HF : Hid (best11F mx tx sx b4 mb10 tb v z seen px py q s sb so sn sc S0 S1 S2 S3 (upd d_ 21) x53 x54 x55 x56 x57 x58 x59 x60 x61 x62 x63 x64 x65 x66 x67 x68 x69 x70 x71 (p.v) (.pointer (some ⟨ms,0,none⟩)) ms r p ((w1.setCell ⟨ms,0,none⟩ (.slice p.a p.o.length p.c)).setCell ⟨ms,1,none⟩ (.int .i64 p.over))) := ⟨F.q2,F.q4,F.q5,F.q9,F.q10,F.q11,F.q12,F.q14,F.q15,F.q16,F.q17,F.q18,F.q19,fun _ => ⟨(show _ from (by simp [hdep] : d_ 0 = true)),(show _ from (by simp [hdep] : d_ 1 = true)),(show _ from (by simp [hdep] : d_ 2 = true)),(show _ from (by simp [hdep] : d_ 3 = true)),(show _ from (by simp [hdep] : d_ 4 = true)),(show _ from (by simp [hdep] : d_ 5 = true)),(show _ from (by simp [hdep] : d_ 6 = true)),(show _ from (by simp [hdep] : d_ 7 = true)),(show _ from (by simp [hdep] : d_ 8 = true)),(show _ from (by simp [hdep] : d_ 9 = true)),(show _ from (by simp [hdep] : d_ 10 = true)),(show _ from (by simp [hdep] : d_ 11 = true)),(show _ from (by simp [hdep] : d_ 12 = true)),(show _ from (by simp [hdep] : d_ 13 = true)),(show _ from (by simp [hdep] : d_ 14 = true)),(show _ from (by simp [hdep] : d_ 15 = true)),(show _ from (by simp [hdep] : d_ 16 = true)),(show _ from (by simp [hdep] : d_ 17 = true)),(show _ from (by simp [hdep] : d_ 18 = true)),(show _ from (by simp [hdep] : d_ 19 = true)),(show _ from (by simp [hdep] : d_ 20 = true))⟩,F.f0,F.f1,F.f2,F.f3,F.f4,F.f5,F.f6,F.f7,F.f8,F.f9,F.f10,F.f11,F.f12,F.f13,F.f14,F.f15,F.f16,F.f17,F.f18,F.f19,F.f20,fun h => (by have h2 : d_ 16 = false := h; rw [(by simp [hdep] : d_ 16 = true)] at h2; cases h2),fun _ h => (by have h2 : d_ 19 = false := h; rw [(by simp [hdep] : d_ 19 = true)] at h2; cases h2),fun _ h => (by simp [upd] at h),fun _ => (by rw [show upd d_ 21 20 = true from (by simp [hdep] : d_ 20 = true)]; exact hres),F.mz⟩
      clear F hS hres
      go_simp
      exact HK.out _ _ ⟨_,_,_,_,_,_,_,_,_,_,_,_,_,_,_,_,_,_,_,_,_,_,_,_,rfl,HF.out⟩
  · rintro d_ a_ w1 hall ⟨x53,x54,x55,x56,x57,x58,x59,x60,x61,x62,x63,x64,x65,x66,x67,x68,x69,x70,x71,x72,x11,ms,r,p,rfl,F⟩
    have hall' : ∀ k,k < 22 → d_ k = true := hall
    obtain rfl := F.f0 (hall' 0 (by decide))
    obtain rfl := F.f1 (hall' 1 (by decide))
    obtain rfl := F.f2 (hall' 2 (by decide))
    obtain rfl := F.f3 (hall' 3 (by decide))
    obtain rfl := F.f4 (hall' 4 (by decide))
    obtain rfl := F.f5 (hall' 5 (by decide))
    obtain rfl := F.f6 (hall' 6 (by decide))
    obtain rfl := F.f7 (hall' 7 (by decide))
    obtain rfl := F.f8 (hall' 8 (by decide))
    obtain rfl := F.f9 (hall' 9 (by decide))
    obtain rfl := F.f10 (hall' 10 (by decide))
    obtain rfl := F.f11 (hall' 11 (by decide))
    obtain rfl := F.f12 (hall' 12 (by decide))
    obtain rfl := F.f13 (hall' 13 (by decide))
    obtain rfl := F.f14 (hall' 14 (by decide))
    obtain rfl := F.f15 (hall' 15 (by decide))
    obtain rfl := F.f16 (hall' 16 (by decide))
    obtain rfl := F.f17 (hall' 17 (by decide))
    obtain rfl := F.f18 (hall' 18 (by decide))
    obtain rfl := F.f19 (hall' 19 (by decide))
    obtain rfl := F.f20 (hall' 20 (by decide))
    have hst := F.st3 (hall' 21 (by decide))
    rw [show d_ 20 = true from hall' 20 (by decide)] at hst
    exact HQ.out ms r p w1 hst
structure best12F (ra : Option Addr) (k : Nat) (rc : Nat) (v : Nat) (b11 : Nat) (p : PV) (S0 : World → Prop) (S1 : Value → World → Prop) (S2 : Value → Option Addr × Nat → World → Prop) (S3 : Value → Option Addr × Nat → Value → World → Prop) (S4 : Value → Option Addr × Nat → Value → Value → World → Prop) (d : Nat → Bool) (x73 x74 x75 x76 x77 x78 x79 x80 x81 x82 x83 x8 : Value) (oc : Option Addr × Nat) (w : World) : Prop where
  q2 : d 2 = true → d 1 = true
  q4 : d 4 = true → d 3 = true
  q5 : d 5 = true → d 2 = true ∧ d 4 = true
  q7 : d 7 = true → d 6 = true
  q8 : d 8 = true → d 5 = true ∧ d 7 = true
  q9 : d 9 = true → d 8 = true
  q10 : d 10 = true → d 0 = true ∧ d 5 = true ∧ d 9 = true
  q11 : d 11 = true → d 0 = true ∧ d 1 = true ∧ d 2 = true ∧ d 3 = true ∧ d 4 = true ∧ d 5 = true ∧ d 6 = true ∧ d 7 = true ∧ d 8 = true ∧ d 9 = true ∧ d 10 = true
  f0 : d 0 = true → x73 = .slice ra k rc
  f1 : d 1 = true → x74 = .int .i64 v
  f3 : d 3 = true → x76 = .pointer (some ⟨b11,0,none⟩)
  f4 : d 4 = true → x77 = .slice p.a p.o.length p.c
  f5 : d 5 = true → x78 = .slice oc.1 (p.o.length + 1) oc.2
  f6 : d 6 = true → x79 = .pointer (some ⟨b11,1,none⟩)
  f7 : d 7 = true → x80 = .int .i64 p.over
  f8 : d 8 = true → x81 = .agg #[.slice oc.1 (p.o.length + 1) oc.2,.int .i64 p.over]
  f11 : d 11 = true → x8 = x83
  g11 : d 11 = false → .slice ra k rc = x8
  st0 : d 2 = false → S0 w
  st1 : d 2 = true → d 5 = false → S1 x75 w
  st2 : d 5 = true → d 9 = false → S2 x75 oc w
  st3 : d 9 = true → d 10 = false → S3 x75 oc x82 w
  st4 : d 10 = true → S4 x75 oc x82 x83 w
noncomputable def best12C : Code := (Try.f91.body.bind (regionAt 12)).getD .skip
set_option maxRecDepth 100000 in
set_option maxHeartbeats 4000000 in
theorem best12 {ra : Option Addr} {k : Nat} {rc : Nat} {v : Nat} {b11 : Nat} {p : PV} {S0 : World → Prop} {S1 : Value → World → Prop} {S2 : Value → Option Addr × Nat → World → Prop} {S3 : Value → Option Addr × Nat → Value → World → Prop} {S4 : Value → Option Addr × Nat → Value → Value → World → Prop} {Q : Exit → Act → World → Prop} {W1 : World} (h0 : S0 W1.drew)
    (kc2 : Hid (∀ (w : World),S0 w → S1 (.slice (some ⟨w.heap.size,0,none⟩) 1 1) (w.alloc (.cells #[.int .i64 v] 3))))
    (kl4 : Hid (∀ (x75 : Value) (w : World),(S0 w ∨ S1 x75 w) → w.cell? ⟨b11,0,none⟩ = some (.slice p.a p.o.length p.c)))
    (kc5 : Hid (∀ (x75 : Value) (w : World),S1 x75 w → ∃ (oc : Option Addr × Nat) (w' : World),(Builtin.append_ #[26,26] 26 #[x75,.slice p.a p.o.length p.c]).run Try.prog w = .ok (.slice oc.1 (p.o.length + 1) oc.2) w' ∧ S2 x75 oc w'))
    (kl7 : Hid (∀ (x75 : Value) (oc : Option Addr × Nat) (w : World),(S0 w ∨ S1 x75 w ∨ S2 x75 oc w) → w.cell? ⟨b11,1,none⟩ = some (.int .i64 p.over)))
    (kc9 : Hid (∀ (x75 : Value) (oc : Option Addr × Nat) (w : World),S2 x75 oc w → S3 x75 oc (.slice (some ⟨w.heap.size,0,none⟩) 1 1) (w.alloc (.cells #[.slice oc.1 (p.o.length + 1) oc.2,.int .i64 p.over] 98))))
    (kc10 : Hid (∀ (x75 : Value) (oc : Option Addr × Nat) (x82 : Value) (w : World),S3 x75 oc x82 w → ∃ (x83 : Value) (w' : World),(Builtin.append_ #[124,124] 124 #[.slice ra k rc,x82]).run Try.prog w = .ok (x83) w' ∧ S4 x75 oc x82 x83 w'))
    {s0 s1 s2 s3 s4 s5 s6 s7 s10 s12 s13 s14 s15 s16 s17 s18 s19 s20 s21 s22 s23 s24 s25 s26 s27 s28 s29 s30 s31 s32 s33 s34 s35 s36 s37 s38 s39 s40 s41 s42 s43 s44 s45 s46 s47 s48 s49 s50 s51 s52 s53 s54 s55 s56 s57 s58 s59 s60 s61 s62 s63 s64 s65 s66 s67 s68 s69 s70 s71 s72 s73 s74 s75 s76 s77 s78 s79 s80 s81 s82 s83 s84 s85 s86 s87 s88 s89 s90 s91 s92 s93 s94 s95 : Value} {dd : List Deferred}
    (hQ : ∀ (x75 : Value) (oc : Option Addr × Nat) (x82 : Value) (x83 : Value) (w' : World),S4 x75 oc x82 x83 w' → Q .normal { tmps := #[s0,s1,s2,s3,s4,s5,s6,s7,x83,.int .i64 v,s10,.pointer (some ⟨b11,0,none⟩),s12,s13,s14,s15,s16,s17,s18,s19,s20,s21,s22,s23,s24,s25,s26,s27,s28,s29,s30,s31,s32,s33,s34,s35,s36,s37,s38,s39,s40,s41,s42,s43,s44,s45,s46,s47,s48,s49,s50,s51,s52,s53,s54,s55,s56,s57,s58,s59,s60,s61,s62,s63,s64,s65,s66,s67,s68,s69,s70,s71,s72,.slice ra k rc,.int .i64 v,x75,.pointer (some ⟨b11,0,none⟩),.slice p.a p.o.length p.c,.slice oc.1 (p.o.length + 1) oc.2,.pointer (some ⟨b11,1,none⟩),.int .i64 p.over,.agg #[.slice oc.1 (p.o.length + 1) oc.2,.int .i64 p.over],x82,x83,s84,s85,s86,s87,s88,s89,s90,s91,s92,s93,s94,s95],defers := dd } w') :
    Code.wpIn (wideAt none) 0 Try.prog best12C Q { tmps := #[s0,s1,s2,s3,s4,s5,s6,s7,.slice ra k rc,.int .i64 v,s10,.pointer (some ⟨b11,0,none⟩),s12,s13,s14,s15,s16,s17,s18,s19,s20,s21,s22,s23,s24,s25,s26,s27,s28,s29,s30,s31,s32,s33,s34,s35,s36,s37,s38,s39,s40,s41,s42,s43,s44,s45,s46,s47,s48,s49,s50,s51,s52,s53,s54,s55,s56,s57,s58,s59,s60,s61,s62,s63,s64,s65,s66,s67,s68,s69,s70,s71,s72,s73,s74,s75,s76,s77,s78,s79,s80,s81,s82,s83,s84,s85,s86,s87,s88,s89,s90,s91,s92,s93,s94,s95],defers := dd } W1 := by
  have HQ := Lib.hid hQ
  clear hQ
  conv => arg 4; whnf
  refine wpIn_region_invG mixed (by kernel_rfl) (fun d_ a_ w' => ∃ (x73 : Value) (x74 : Value) (x75 : Value) (x76 : Value) (x77 : Value) (x78 : Value) (x79 : Value) (x80 : Value) (x81 : Value) (x82 : Value) (x83 : Value) (x8 : Value) (oc : Option Addr × Nat),a_ = { tmps := #[s0,s1,s2,s3,s4,s5,s6,s7,x8,.int .i64 v,s10,.pointer (some ⟨b11,0,none⟩),s12,s13,s14,s15,s16,s17,s18,s19,s20,s21,s22,s23,s24,s25,s26,s27,s28,s29,s30,s31,s32,s33,s34,s35,s36,s37,s38,s39,s40,s41,s42,s43,s44,s45,s46,s47,s48,s49,s50,s51,s52,s53,s54,s55,s56,s57,s58,s59,s60,s61,s62,s63,s64,s65,s66,s67,s68,s69,s70,s71,s72,x73,x74,x75,x76,x77,x78,x79,x80,x81,x82,x83,s84,s85,s86,s87,s88,s89,s90,s91,s92,s93,s94,s95],defers := dd } ∧ best12F ra k rc v b11 p S0 S1 S2 S3 S4 d_ x73 x74 x75 x76 x77 x78 x79 x80 x81 x82 x83 x8 oc w') ?_ ?_ ?_
  · refine ⟨s73,s74,s75,s76,s77,s78,s79,s80,s81,s82,s83,(.slice ra k rc),default,rfl,?_⟩
    constructor <;> first | rfl | (intro _; rfl) | (intro h; cases h; done) | (intro _; exact h0) | exact h0
  · refine ⟨?_,?_,?_,?_,?_,?_,?_,?_,?_,?_,?_,?_,trivial⟩
    all_goals
      rintro d_ a_ w1 K hd_ hdep ⟨x73,x74,x75,x76,x77,x78,x79,x80,x81,x82,x83,x8,oc,rfl,F⟩ HK
      simp [Region.binds] at hdep
    · have n11_ : d_ 11 = false := by
        cases e_ : d_ 11 with
        | false => rfl
        | true => have h2 := (F.q11 e_).1; rw [show d_ 0 = false from hd_] at h2; cases h2
      have g11_ := F.g11 n11_
      subst g11_
      have HF : Hid (best12F ra k rc v b11 p S0 S1 S2 S3 S4 (upd d_ 0) (.slice ra k rc) x74 x75 x76 x77 x78 x79 x80 x81 x82 x83 (.slice ra k rc) oc w1) := ⟨F.q2,F.q4,F.q5,F.q7,F.q8,F.q9,fun h => ⟨rfl,(F.q10 h).2.1,(F.q10 h).2.2⟩,fun h => ⟨rfl,(F.q11 h).2.1,(F.q11 h).2.2.1,(F.q11 h).2.2.2.1,(F.q11 h).2.2.2.2.1,(F.q11 h).2.2.2.2.2.1,(F.q11 h).2.2.2.2.2.2.1,(F.q11 h).2.2.2.2.2.2.2.1,(F.q11 h).2.2.2.2.2.2.2.2.1,(F.q11 h).2.2.2.2.2.2.2.2.2.1,(F.q11 h).2.2.2.2.2.2.2.2.2.2⟩,fun _ => rfl,F.f1,F.f3,F.f4,F.f5,F.f6,F.f7,F.f8,F.f11,F.g11,F.st0,F.st1,F.st2,F.st3,F.st4⟩
      clear F
      go_simp
      exact HK.out _ _ ⟨_,_,_,_,_,_,_,_,_,_,_,_,_,rfl,HF.out⟩
    · have HF : Hid (best12F ra k rc v b11 p S0 S1 S2 S3 S4 (upd d_ 1) x73 (.int .i64 v) x75 x76 x77 x78 x79 x80 x81 x82 x83 x8 oc w1) := ⟨fun h => rfl,F.q4,F.q5,F.q7,F.q8,F.q9,F.q10,fun h => ⟨(F.q11 h).1,rfl,(F.q11 h).2.2.1,(F.q11 h).2.2.2.1,(F.q11 h).2.2.2.2.1,(F.q11 h).2.2.2.2.2.1,(F.q11 h).2.2.2.2.2.2.1,(F.q11 h).2.2.2.2.2.2.2.1,(F.q11 h).2.2.2.2.2.2.2.2.1,(F.q11 h).2.2.2.2.2.2.2.2.2.1,(F.q11 h).2.2.2.2.2.2.2.2.2.2⟩,F.f0,fun _ => rfl,F.f3,F.f4,F.f5,F.f6,F.f7,F.f8,F.f11,F.g11,F.st0,F.st1,F.st2,F.st3,F.st4⟩
      clear F
      go_simp
      exact HK.out _ _ ⟨_,_,_,_,_,_,_,_,_,_,_,_,_,rfl,HF.out⟩
    · have hS := F.st0  hd_
      obtain rfl := F.f1 (by simp [hdep])
      have hres := kc2.out w1 hS
      have HF : Hid (best12F ra k rc v b11 p S0 S1 S2 S3 S4 (upd d_ 2) x73 (.int .i64 v) ((.slice (some ⟨w1.heap.size,0,none⟩) 1 1)) x76 x77 x78 x79 x80 x81 x82 x83 x8 oc (w1.alloc (.cells #[.int .i64 v] 3))) := ⟨fun _ => (show _ from (by simp [hdep] : d_ 1 = true)),F.q4,fun h => ⟨rfl,(F.q5 h).2⟩,F.q7,F.q8,F.q9,F.q10,fun h => ⟨(F.q11 h).1,(F.q11 h).2.1,rfl,(F.q11 h).2.2.2.1,(F.q11 h).2.2.2.2.1,(F.q11 h).2.2.2.2.2.1,(F.q11 h).2.2.2.2.2.2.1,(F.q11 h).2.2.2.2.2.2.2.1,(F.q11 h).2.2.2.2.2.2.2.2.1,(F.q11 h).2.2.2.2.2.2.2.2.2.1,(F.q11 h).2.2.2.2.2.2.2.2.2.2⟩,F.f0,F.f1,F.f3,F.f4,F.f5,F.f6,F.f7,F.f8,F.f11,F.g11,fun h => (by simp [upd] at h),fun _ _ => hres,fun h _ => (by have h2 : d_ 2 = true := (F.q5 h).1; rw [show d_ 2 = false from hd_] at h2; cases h2),fun h _ => (by have h2 : d_ 2 = true := (F.q5 (F.q8 (F.q9 h)).1).1; rw [show d_ 2 = false from hd_] at h2; cases h2),fun h => (by have h2 : d_ 2 = true := (F.q5 (F.q10 h).2.1).1; rw [show d_ 2 = false from hd_] at h2; cases h2)⟩
      clear F hS hres
      go_simp
      exact HK.out _ _ ⟨_,_,_,_,_,_,_,_,_,_,_,_,_,rfl,HF.out⟩
    · have HF : Hid (best12F ra k rc v b11 p S0 S1 S2 S3 S4 (upd d_ 3) x73 x74 x75 (.pointer (some ⟨b11,0,none⟩)) x77 x78 x79 x80 x81 x82 x83 x8 oc w1) := ⟨F.q2,fun h => rfl,F.q5,F.q7,F.q8,F.q9,F.q10,fun h => ⟨(F.q11 h).1,(F.q11 h).2.1,(F.q11 h).2.2.1,rfl,(F.q11 h).2.2.2.2.1,(F.q11 h).2.2.2.2.2.1,(F.q11 h).2.2.2.2.2.2.1,(F.q11 h).2.2.2.2.2.2.2.1,(F.q11 h).2.2.2.2.2.2.2.2.1,(F.q11 h).2.2.2.2.2.2.2.2.2.1,(F.q11 h).2.2.2.2.2.2.2.2.2.2⟩,F.f0,F.f1,fun _ => rfl,F.f4,F.f5,F.f6,F.f7,F.f8,F.f11,F.g11,F.st0,F.st1,F.st2,F.st3,F.st4⟩
      clear F
      go_simp
      exact HK.out _ _ ⟨_,_,_,_,_,_,_,_,_,_,_,_,_,rfl,HF.out⟩
    · have hst : S0 w1 ∨ S1 x75 w1 := by
        cases e1 : d_ 2 with
        | false => exact .inl ((F.st0 e1))
        | true =>
          have n_ : d_ 5 = false := by
            cases e_ : d_ 5 with
            | false => rfl
            | true => have h2 := (F.q5 e_).2; rw [show d_ 4 = false from hd_] at h2; cases h2
          exact .inr ((F.st1 e1 n_))
      have kk := kl4.out x75 w1 hst
      clear hst
      obtain rfl := F.f3 (by simp [hdep])
      have HF : Hid (best12F ra k rc v b11 p S0 S1 S2 S3 S4 (upd d_ 4) x73 x74 x75 (.pointer (some ⟨b11,0,none⟩)) (.slice p.a p.o.length p.c) x78 x79 x80 x81 x82 x83 x8 oc w1) := ⟨F.q2,fun _ => (show _ from (by simp [hdep] : d_ 3 = true)),fun h => ⟨(F.q5 h).1,rfl⟩,F.q7,F.q8,F.q9,F.q10,fun h => ⟨(F.q11 h).1,(F.q11 h).2.1,(F.q11 h).2.2.1,(F.q11 h).2.2.2.1,rfl,(F.q11 h).2.2.2.2.2.1,(F.q11 h).2.2.2.2.2.2.1,(F.q11 h).2.2.2.2.2.2.2.1,(F.q11 h).2.2.2.2.2.2.2.2.1,(F.q11 h).2.2.2.2.2.2.2.2.2.1,(F.q11 h).2.2.2.2.2.2.2.2.2.2⟩,F.f0,F.f1,F.f3,fun _ => rfl,F.f5,F.f6,F.f7,F.f8,F.f11,F.g11,F.st0,F.st1,F.st2,F.st3,F.st4⟩
      clear F
      go_simp
      exact HK.out _ _ ⟨_,_,_,_,_,_,_,_,_,_,_,_,_,rfl,HF.out⟩
    · have hS := F.st1 (by simp [hdep] : d_ 2 = true) hd_
      obtain rfl := F.f4 (by simp [hdep])
      obtain ⟨v_,w_,hr,hres⟩ := kc5.out x75 w1 hS
      rw [if_pos (by rfl)]
      refine wpIn_append_run (.tmp 75) (.tmp 77) 26 rfl _ _ _ _ rfl rfl hr ?_
      exact HK.out _ _ ⟨_,_,_,_,_,_,_,_,_,_,_,_,v_,rfl,⟨F.q2,F.q4,fun _ => ⟨(show _ from (by simp [hdep] : d_ 2 = true)),(show _ from (by simp [hdep] : d_ 4 = true))⟩,F.q7,fun h => ⟨rfl,(F.q8 h).2⟩,F.q9,fun h => ⟨(F.q10 h).1,rfl,(F.q10 h).2.2⟩,fun h => ⟨(F.q11 h).1,(F.q11 h).2.1,(F.q11 h).2.2.1,(F.q11 h).2.2.2.1,(F.q11 h).2.2.2.2.1,rfl,(F.q11 h).2.2.2.2.2.2.1,(F.q11 h).2.2.2.2.2.2.2.1,(F.q11 h).2.2.2.2.2.2.2.2.1,(F.q11 h).2.2.2.2.2.2.2.2.2.1,(F.q11 h).2.2.2.2.2.2.2.2.2.2⟩,F.f0,F.f1,F.f3,F.f4,fun _ => rfl,F.f6,F.f7,fun h => (by have h2 : d_ 5 = true := (F.q8 h).1; rw [show d_ 5 = false from hd_] at h2; cases h2),F.f11,F.g11,fun h => (by have h2 : d_ 2 = false := h; rw [(by simp [hdep] : d_ 2 = true)] at h2; cases h2),fun _ h => (by simp [upd] at h),fun _ _ => hres,fun h _ => (by have h2 : d_ 5 = true := (F.q8 (F.q9 h)).1; rw [show d_ 5 = false from hd_] at h2; cases h2),fun h => (by have h2 : d_ 5 = true := (F.q10 h).2.1; rw [show d_ 5 = false from hd_] at h2; cases h2)⟩⟩
    · have HF : Hid (best12F ra k rc v b11 p S0 S1 S2 S3 S4 (upd d_ 6) x73 x74 x75 x76 x77 x78 (.pointer (some ⟨b11,1,none⟩)) x80 x81 x82 x83 x8 oc w1) := ⟨F.q2,F.q4,F.q5,fun h => rfl,F.q8,F.q9,F.q10,fun h => ⟨(F.q11 h).1,(F.q11 h).2.1,(F.q11 h).2.2.1,(F.q11 h).2.2.2.1,(F.q11 h).2.2.2.2.1,(F.q11 h).2.2.2.2.2.1,rfl,(F.q11 h).2.2.2.2.2.2.2.1,(F.q11 h).2.2.2.2.2.2.2.2.1,(F.q11 h).2.2.2.2.2.2.2.2.2.1,(F.q11 h).2.2.2.2.2.2.2.2.2.2⟩,F.f0,F.f1,F.f3,F.f4,F.f5,fun _ => rfl,F.f7,F.f8,F.f11,F.g11,F.st0,F.st1,F.st2,F.st3,F.st4⟩
      clear F
      go_simp
      exact HK.out _ _ ⟨_,_,_,_,_,_,_,_,_,_,_,_,_,rfl,HF.out⟩
    · have hst : S0 w1 ∨ S1 x75 w1 ∨ S2 x75 oc w1 := by
        cases e1 : d_ 2 with
        | false => exact .inl ((F.st0 e1))
        | true =>
          cases e2 : d_ 5 with
          | false => exact .inr (.inl ((F.st1 e1 e2)))
          | true =>
            have n_ : d_ 9 = false := by
              cases e_ : d_ 9 with
              | false => rfl
              | true => have h2 := (F.q8 (F.q9 e_)).2; rw [show d_ 7 = false from hd_] at h2; cases h2
            exact .inr (.inr ((F.st2 e2 n_)))
      have kk := kl7.out x75 oc w1 hst
      clear hst
      obtain rfl := F.f6 (by simp [hdep])
      have HF : Hid (best12F ra k rc v b11 p S0 S1 S2 S3 S4 (upd d_ 7) x73 x74 x75 x76 x77 x78 (.pointer (some ⟨b11,1,none⟩)) (.int .i64 p.over) x81 x82 x83 x8 oc w1) := ⟨F.q2,F.q4,F.q5,fun _ => (show _ from (by simp [hdep] : d_ 6 = true)),fun h => ⟨(F.q8 h).1,rfl⟩,F.q9,F.q10,fun h => ⟨(F.q11 h).1,(F.q11 h).2.1,(F.q11 h).2.2.1,(F.q11 h).2.2.2.1,(F.q11 h).2.2.2.2.1,(F.q11 h).2.2.2.2.2.1,(F.q11 h).2.2.2.2.2.2.1,rfl,(F.q11 h).2.2.2.2.2.2.2.2.1,(F.q11 h).2.2.2.2.2.2.2.2.2.1,(F.q11 h).2.2.2.2.2.2.2.2.2.2⟩,F.f0,F.f1,F.f3,F.f4,F.f5,F.f6,fun _ => rfl,F.f8,F.f11,F.g11,F.st0,F.st1,F.st2,F.st3,F.st4⟩
      clear F
      go_simp
      exact HK.out _ _ ⟨_,_,_,_,_,_,_,_,_,_,_,_,_,rfl,HF.out⟩
    · obtain rfl := F.f5 (by simp [hdep])
      obtain rfl := F.f7 (by simp [hdep])
      have HF : Hid (best12F ra k rc v b11 p S0 S1 S2 S3 S4 (upd d_ 8) x73 x74 x75 x76 x77 (.slice oc.1 (p.o.length + 1) oc.2) x79 (.int .i64 p.over) (.agg #[.slice oc.1 (p.o.length + 1) oc.2,.int .i64 p.over]) x82 x83 x8 oc w1) := ⟨F.q2,F.q4,F.q5,F.q7,fun _ => ⟨(show _ from (by simp [hdep] : d_ 5 = true)),(show _ from (by simp [hdep] : d_ 7 = true))⟩,fun h => rfl,F.q10,fun h => ⟨(F.q11 h).1,(F.q11 h).2.1,(F.q11 h).2.2.1,(F.q11 h).2.2.2.1,(F.q11 h).2.2.2.2.1,(F.q11 h).2.2.2.2.2.1,(F.q11 h).2.2.2.2.2.2.1,(F.q11 h).2.2.2.2.2.2.2.1,rfl,(F.q11 h).2.2.2.2.2.2.2.2.2.1,(F.q11 h).2.2.2.2.2.2.2.2.2.2⟩,F.f0,F.f1,F.f3,F.f4,F.f5,F.f6,F.f7,fun _ => rfl,F.f11,F.g11,F.st0,F.st1,F.st2,F.st3,F.st4⟩
      clear F
      go_simp
      exact HK.out _ _ ⟨_,_,_,_,_,_,_,_,_,_,_,_,_,rfl,HF.out⟩
    · have hS := F.st2 (F.q8 (by simp [hdep] : d_ 8 = true)).1 hd_
      obtain rfl := F.f8 (by simp [hdep])
      have hres := kc9.out x75 oc w1 hS
      have HF : Hid (best12F ra k rc v b11 p S0 S1 S2 S3 S4 (upd d_ 9) x73 x74 x75 x76 x77 x78 x79 x80 (.agg #[.slice oc.1 (p.o.length + 1) oc.2,.int .i64 p.over]) ((.slice (some ⟨w1.heap.size,0,none⟩) 1 1)) x83 x8 oc (w1.alloc (.cells #[.slice oc.1 (p.o.length + 1) oc.2,.int .i64 p.over] 98))) := ⟨F.q2,F.q4,F.q5,F.q7,F.q8,fun _ => (show _ from (by simp [hdep] : d_ 8 = true)),fun h => ⟨(F.q10 h).1,(F.q10 h).2.1,rfl⟩,fun h => ⟨(F.q11 h).1,(F.q11 h).2.1,(F.q11 h).2.2.1,(F.q11 h).2.2.2.1,(F.q11 h).2.2.2.2.1,(F.q11 h).2.2.2.2.2.1,(F.q11 h).2.2.2.2.2.2.1,(F.q11 h).2.2.2.2.2.2.2.1,(F.q11 h).2.2.2.2.2.2.2.2.1,rfl,(F.q11 h).2.2.2.2.2.2.2.2.2.2⟩,F.f0,F.f1,F.f3,F.f4,F.f5,F.f6,F.f7,F.f8,F.f11,F.g11,fun h => (by have h2 : d_ 2 = false := h; rw [(F.q5 (F.q8 (by simp [hdep] : d_ 8 = true)).1).1] at h2; cases h2),fun _ h => (by have h2 : d_ 5 = false := h; rw [(F.q8 (by simp [hdep] : d_ 8 = true)).1] at h2; cases h2),fun _ h => (by simp [upd] at h),fun _ _ => hres,fun h => (by have h2 : d_ 9 = true := (F.q10 h).2.2; rw [show d_ 9 = false from hd_] at h2; cases h2)⟩
      clear F hS hres
      go_simp
      exact HK.out _ _ ⟨_,_,_,_,_,_,_,_,_,_,_,_,_,rfl,HF.out⟩
    · have hS := F.st3 (by simp [hdep] : d_ 9 = true) hd_
      obtain rfl := F.f0 (by simp [hdep])
      obtain ⟨v_,w_,hr,hres⟩ := kc10.out x75 oc x82 w1 hS
      rw [if_pos (by rfl)]
      refine wpIn_append_run (.tmp 73) (.tmp 82) 124 rfl _ _ _ _ rfl rfl hr ?_
      exact HK.out _ _ ⟨_,_,_,_,_,_,_,_,_,_,_,_,oc,rfl,⟨F.q2,F.q4,F.q5,F.q7,F.q8,F.q9,fun _ => ⟨(show _ from (by simp [hdep] : d_ 0 = true)),(show _ from (by simp [hdep] : d_ 5 = true)),(show _ from (by simp [hdep] : d_ 9 = true))⟩,fun h => ⟨(F.q11 h).1,(F.q11 h).2.1,(F.q11 h).2.2.1,(F.q11 h).2.2.2.1,(F.q11 h).2.2.2.2.1,(F.q11 h).2.2.2.2.2.1,(F.q11 h).2.2.2.2.2.2.1,(F.q11 h).2.2.2.2.2.2.2.1,(F.q11 h).2.2.2.2.2.2.2.2.1,(F.q11 h).2.2.2.2.2.2.2.2.2.1,rfl⟩,F.f0,F.f1,F.f3,F.f4,F.f5,F.f6,F.f7,F.f8,fun h => (by have h2 : d_ 10 = true := (F.q11 h).2.2.2.2.2.2.2.2.2.2; rw [show d_ 10 = false from hd_] at h2; cases h2),F.g11,fun h => (by have h2 : d_ 2 = false := h; rw [(F.q5 (by simp [hdep] : d_ 5 = true)).1] at h2; cases h2),fun _ h => (by have h2 : d_ 5 = false := h; rw [(by simp [hdep] : d_ 5 = true)] at h2; cases h2),fun _ h => (by have h2 : d_ 9 = false := h; rw [(by simp [hdep] : d_ 9 = true)] at h2; cases h2),fun _ h => (by simp [upd] at h),fun _ => hres⟩⟩
    · have HF : Hid (best12F ra k rc v b11 p S0 S1 S2 S3 S4 (upd d_ 11) x73 x74 x75 x76 x77 x78 x79 x80 x81 x82 x83 (x83) oc w1) := ⟨F.q2,F.q4,F.q5,F.q7,F.q8,F.q9,F.q10,fun _ => ⟨(show _ from (by simp [hdep] : d_ 0 = true)),(show _ from (by simp [hdep] : d_ 1 = true)),(show _ from (by simp [hdep] : d_ 2 = true)),(show _ from (by simp [hdep] : d_ 3 = true)),(show _ from (by simp [hdep] : d_ 4 = true)),(show _ from (by simp [hdep] : d_ 5 = true)),(show _ from (by simp [hdep] : d_ 6 = true)),(show _ from (by simp [hdep] : d_ 7 = true)),(show _ from (by simp [hdep] : d_ 8 = true)),(show _ from (by simp [hdep] : d_ 9 = true)),(show _ from (by simp [hdep] : d_ 10 = true))⟩,F.f0,F.f1,F.f3,F.f4,F.f5,F.f6,F.f7,F.f8,fun _ => rfl,fun h => (by simp [upd] at h),F.st0,F.st1,F.st2,F.st3,F.st4⟩
      clear F
      go_simp
      exact HK.out _ _ ⟨_,_,_,_,_,_,_,_,_,_,_,_,_,rfl,HF.out⟩
  · rintro d_ a_ w1 hall ⟨x73,x74,x75,x76,x77,x78,x79,x80,x81,x82,x83,x8,oc,rfl,F⟩
    have hall' : ∀ k,k < 12 → d_ k = true := hall
    obtain rfl := F.f0 (hall' 0 (by decide))
    obtain rfl := F.f1 (hall' 1 (by decide))
    obtain rfl := F.f3 (hall' 3 (by decide))
    obtain rfl := F.f4 (hall' 4 (by decide))
    obtain rfl := F.f5 (hall' 5 (by decide))
    obtain rfl := F.f6 (hall' 6 (by decide))
    obtain rfl := F.f7 (hall' 7 (by decide))
    obtain rfl := F.f8 (hall' 8 (by decide))
    have h_ := (F.f11 (hall' 11 (by decide))).symm
    subst h_
    have hst := F.st4 (hall' 10 (by decide))
    exact HQ.out x75 oc x82 x83 w1 hst
structure best14F (mx : Nat) (mb : Nat) (b4 : Nat) (seen : Nat) (f : Int) (left : Int) (rb : Nat) (k : Nat) (rc : Nat) (p : PV) (ta : Option Addr) (S0 : World → Prop) (S1 : PV → World → Prop) (S2 : PV → World → Prop) (d : Nat → Bool) (x85 x86 x87 x88 x89 x90 x91 x92 : Value) (g : PV) (w : World) : Prop where
  q3 : d 3 = true → d 2 = true
  q4 : d 4 = true → d 3 = true
  q6 : d 6 = true → d 5 = true
  q7 : d 7 = true → d 4 = true ∧ d 6 = true
  q8 : d 8 = true → d 0 = true ∧ d 1 = true ∧ d 2 = true ∧ d 3 = true ∧ d 4 = true ∧ d 5 = true ∧ d 6 = true ∧ d 7 = true
  f0 : d 0 = true → x85 = .map (some mb)
  f1 : d 1 = true → x86 = .agg #[.int .i64 seen,.int .i64 f,.int .i64 left]
  f2 : d 2 = true → x87 = .slice (some ⟨rb,0,none⟩) (k + 1) rc
  f3 : d 3 = true → x88 = .pointer (some ⟨rb,0,none⟩)
  f4 : d 4 = true → x89 = p.v
  f5 : d 5 = true → x90 = .slice (some ⟨rb,0,none⟩) (k + 1) rc
  f6 : d 6 = true → x91 = .slice ta k (rc - 1)
  f7 : d 7 = true → x92 = g.v
  st0 : d 7 = false → S0 w
  st1 : d 7 = true → d 8 = false → S1 g w
  st2 : d 8 = true → S2 g w
noncomputable def best14C : Code := (Try.f91.body.bind (regionAt 14)).getD .skip
set_option maxRecDepth 100000 in
set_option maxHeartbeats 4000000 in
theorem best14 {mx : Nat} {mb : Nat} {b4 : Nat} {seen : Nat} {f : Int} {left : Int} {rb : Nat} {k : Nat} {rc : Nat} {p : PV} {ta : Option Addr} {S0 : World → Prop} {S1 : PV → World → Prop} {S2 : PV → World → Prop} {Q : Exit → Act → World → Prop} {W1 : World} (hkc : k + 1 ≤ rc) (hta : (if rc = 1 then some (⟨rb,0,none⟩ : Addr) else some ⟨rb,2,none⟩) = ta) (h0 : S0 W1.drew)
    (kl0 : Hid (∀ (g : PV) (w : World),(S0 w ∨ S1 g w) → w.cell? ⟨mx,0,none⟩ = some (.map (some mb))))
    (kl1 : Hid (∀ (g : PV) (w : World),(S0 w ∨ S1 g w) → w.cell? ⟨b4,0,none⟩ = some (.int .i64 seen) ∧ w.cell? ⟨b4,1,none⟩ = some (.int .i64 f) ∧ w.cell? ⟨b4,2,none⟩ = some (.int .i64 left)))
    (kl4 : Hid (∀ (w : World),(S0 w) → w.cell? ⟨rb,0,none⟩ = some (.slice p.a p.o.length p.c) ∧ w.cell? ⟨rb,1,none⟩ = some (.int .i64 p.over)))
    (kc7 : Hid (∀ (w : World),S0 w → Calls Try.prog 92 #[.func (.func 93) #[] #[],p.v,.slice ta k (rc - 1)] w fun e w' => ∃ g : PV,e = .returned (g.v) ∧ S1 g w'))
    (kc8 : Hid (∀ (g : PV) (w : World),S1 g w → ∃ w' : World,(Instr.mapUpdate 119 (.map (some mb)) (.agg #[.int .i64 seen,.int .i64 f,.int .i64 left]) (g.v)).run Try.prog w = .ok () w' ∧ S2 g w'))
    {s0 s2 s3 s5 s6 s7 s9 s10 s11 s12 s13 s14 s15 s16 s17 s18 s19 s20 s21 s22 s23 s24 s25 s26 s27 s28 s29 s30 s31 s32 s33 s34 s35 s36 s37 s38 s39 s40 s41 s42 s43 s44 s45 s46 s47 s48 s49 s50 s51 s52 s53 s54 s55 s56 s57 s58 s59 s60 s61 s62 s63 s64 s65 s66 s67 s68 s69 s70 s71 s72 s73 s74 s75 s76 s77 s78 s79 s80 s81 s82 s83 s84 s85 s86 s87 s88 s89 s90 s91 s92 s93 s94 s95 : Value} {dd : List Deferred}
    (hQ : ∀ (g : PV) (w' : World),S2 g w' → Q .normal { tmps := #[s0,.pointer (some ⟨mx,0,none⟩),s2,s3,.pointer (some ⟨b4,0,none⟩),s5,s6,s7,.slice (some ⟨rb,0,none⟩) (k + 1) rc,s9,s10,s11,s12,s13,s14,s15,s16,s17,s18,s19,s20,s21,s22,s23,s24,s25,s26,s27,s28,s29,s30,s31,s32,s33,s34,s35,s36,s37,s38,s39,s40,s41,s42,s43,s44,s45,s46,s47,s48,s49,s50,s51,s52,s53,s54,s55,s56,s57,s58,s59,s60,s61,s62,s63,s64,s65,s66,s67,s68,s69,s70,s71,s72,s73,s74,s75,s76,s77,s78,s79,s80,s81,s82,s83,s84,.map (some mb),.agg #[.int .i64 seen,.int .i64 f,.int .i64 left],.slice (some ⟨rb,0,none⟩) (k + 1) rc,.pointer (some ⟨rb,0,none⟩),p.v,.slice (some ⟨rb,0,none⟩) (k + 1) rc,.slice ta k (rc - 1),g.v,s93,s94,s95],defers := dd } w') :
    Code.wpIn (wideAt none) 0 Try.prog best14C Q { tmps := #[s0,.pointer (some ⟨mx,0,none⟩),s2,s3,.pointer (some ⟨b4,0,none⟩),s5,s6,s7,.slice (some ⟨rb,0,none⟩) (k + 1) rc,s9,s10,s11,s12,s13,s14,s15,s16,s17,s18,s19,s20,s21,s22,s23,s24,s25,s26,s27,s28,s29,s30,s31,s32,s33,s34,s35,s36,s37,s38,s39,s40,s41,s42,s43,s44,s45,s46,s47,s48,s49,s50,s51,s52,s53,s54,s55,s56,s57,s58,s59,s60,s61,s62,s63,s64,s65,s66,s67,s68,s69,s70,s71,s72,s73,s74,s75,s76,s77,s78,s79,s80,s81,s82,s83,s84,s85,s86,s87,s88,s89,s90,s91,s92,s93,s94,s95],defers := dd } W1 := by
  have HQ := Lib.hid hQ
  clear hQ
  conv => arg 4; whnf
  refine wpIn_region_invG mixed (by kernel_rfl) (fun d_ a_ w' => ∃ (x85 : Value) (x86 : Value) (x87 : Value) (x88 : Value) (x89 : Value) (x90 : Value) (x91 : Value) (x92 : Value) (g : PV),a_ = { tmps := #[s0,.pointer (some ⟨mx,0,none⟩),s2,s3,.pointer (some ⟨b4,0,none⟩),s5,s6,s7,.slice (some ⟨rb,0,none⟩) (k + 1) rc,s9,s10,s11,s12,s13,s14,s15,s16,s17,s18,s19,s20,s21,s22,s23,s24,s25,s26,s27,s28,s29,s30,s31,s32,s33,s34,s35,s36,s37,s38,s39,s40,s41,s42,s43,s44,s45,s46,s47,s48,s49,s50,s51,s52,s53,s54,s55,s56,s57,s58,s59,s60,s61,s62,s63,s64,s65,s66,s67,s68,s69,s70,s71,s72,s73,s74,s75,s76,s77,s78,s79,s80,s81,s82,s83,s84,x85,x86,x87,x88,x89,x90,x91,x92,s93,s94,s95],defers := dd } ∧ best14F mx mb b4 seen f left rb k rc p ta S0 S1 S2 d_ x85 x86 x87 x88 x89 x90 x91 x92 g w') ?_ ?_ ?_
  · refine ⟨s85,s86,s87,s88,s89,s90,s91,s92,default,rfl,?_⟩
    constructor <;> first | rfl | (intro _; rfl) | (intro h; cases h; done) | (intro _; exact h0) | exact h0
  · refine ⟨?_,?_,?_,?_,?_,?_,?_,?_,?_,trivial⟩
    all_goals
      rintro d_ a_ w1 K hd_ hdep ⟨x85,x86,x87,x88,x89,x90,x91,x92,g,rfl,F⟩ HK
      simp [Region.binds] at hdep
    · have hst : S0 w1 ∨ S1 g w1 := by
        cases e1 : d_ 7 with
        | false => exact .inl ((F.st0 e1))
        | true =>
          have n_ : d_ 8 = false := by
            cases e_ : d_ 8 with
            | false => rfl
            | true => have h2 := (F.q8 e_).1; rw [show d_ 0 = false from hd_] at h2; cases h2
          exact .inr ((F.st1 e1 n_))
      have kk := kl0.out g w1 hst
      clear hst
      have HF : Hid (best14F mx mb b4 seen f left rb k rc p ta S0 S1 S2 (upd d_ 0) (.map (some mb)) x86 x87 x88 x89 x90 x91 x92 g w1) := ⟨F.q3,F.q4,F.q6,F.q7,fun h => ⟨rfl,(F.q8 h).2.1,(F.q8 h).2.2.1,(F.q8 h).2.2.2.1,(F.q8 h).2.2.2.2.1,(F.q8 h).2.2.2.2.2.1,(F.q8 h).2.2.2.2.2.2.1,(F.q8 h).2.2.2.2.2.2.2⟩,fun _ => rfl,F.f1,F.f2,F.f3,F.f4,F.f5,F.f6,F.f7,F.st0,F.st1,F.st2⟩
      clear F
      go_simp
      exact HK.out _ _ ⟨_,_,_,_,_,_,_,_,_,rfl,HF.out⟩
    · have hst : S0 w1 ∨ S1 g w1 := by
        cases e1 : d_ 7 with
        | false => exact .inl ((F.st0 e1))
        | true =>
          have n_ : d_ 8 = false := by
            cases e_ : d_ 8 with
            | false => rfl
            | true => have h2 := (F.q8 e_).2.1; rw [show d_ 1 = false from hd_] at h2; cases h2
          exact .inr ((F.st1 e1 n_))
      have kk := kl1.out g w1 hst
      obtain ⟨kk0,kk1,kk2⟩ := kk
      clear hst
      have HF : Hid (best14F mx mb b4 seen f left rb k rc p ta S0 S1 S2 (upd d_ 1) x85 (.agg #[.int .i64 seen,.int .i64 f,.int .i64 left]) x87 x88 x89 x90 x91 x92 g w1) := ⟨F.q3,F.q4,F.q6,F.q7,fun h => ⟨(F.q8 h).1,rfl,(F.q8 h).2.2.1,(F.q8 h).2.2.2.1,(F.q8 h).2.2.2.2.1,(F.q8 h).2.2.2.2.2.1,(F.q8 h).2.2.2.2.2.2.1,(F.q8 h).2.2.2.2.2.2.2⟩,F.f0,fun _ => rfl,F.f2,F.f3,F.f4,F.f5,F.f6,F.f7,F.st0,F.st1,F.st2⟩
      clear F
      go_simp
      exact HK.out _ _ ⟨_,_,_,_,_,_,_,_,_,rfl,HF.out⟩
    · have HF : Hid (best14F mx mb b4 seen f left rb k rc p ta S0 S1 S2 (upd d_ 2) x85 x86 (.slice (some ⟨rb,0,none⟩) (k + 1) rc) x88 x89 x90 x91 x92 g w1) := ⟨fun h => rfl,F.q4,F.q6,F.q7,fun h => ⟨(F.q8 h).1,(F.q8 h).2.1,rfl,(F.q8 h).2.2.2.1,(F.q8 h).2.2.2.2.1,(F.q8 h).2.2.2.2.2.1,(F.q8 h).2.2.2.2.2.2.1,(F.q8 h).2.2.2.2.2.2.2⟩,F.f0,F.f1,fun _ => rfl,F.f3,F.f4,F.f5,F.f6,F.f7,F.st0,F.st1,F.st2⟩
      clear F
      go_simp
      exact HK.out _ _ ⟨_,_,_,_,_,_,_,_,_,rfl,HF.out⟩
    · obtain rfl := F.f2 (by simp [hdep])
      have HF : Hid (best14F mx mb b4 seen f left rb k rc p ta S0 S1 S2 (upd d_ 3) x85 x86 (.slice (some ⟨rb,0,none⟩) (k + 1) rc) (.pointer (some ⟨rb,0,none⟩)) x89 x90 x91 x92 g w1) := ⟨fun _ => (show _ from (by simp [hdep] : d_ 2 = true)),fun h => rfl,F.q6,F.q7,fun h => ⟨(F.q8 h).1,(F.q8 h).2.1,(F.q8 h).2.2.1,rfl,(F.q8 h).2.2.2.2.1,(F.q8 h).2.2.2.2.2.1,(F.q8 h).2.2.2.2.2.2.1,(F.q8 h).2.2.2.2.2.2.2⟩,F.f0,F.f1,F.f2,fun _ => rfl,F.f4,F.f5,F.f6,F.f7,F.st0,F.st1,F.st2⟩
      clear F
      go_simp
      exact HK.out _ _ ⟨_,_,_,_,_,_,_,_,_,rfl,HF.out⟩
    · have hst : S0 w1 := by
        have n_ : d_ 7 = false := by
          cases e_ : d_ 7 with
          | false => rfl
          | true => have h2 := (F.q7 e_).1; rw [show d_ 4 = false from hd_] at h2; cases h2
        exact (F.st0 n_)
      have kk := kl4.out w1 hst
      obtain ⟨kk0,kk1⟩ := kk
      clear hst
      obtain rfl := F.f3 (by simp [hdep])
      have HF : Hid (best14F mx mb b4 seen f left rb k rc p ta S0 S1 S2 (upd d_ 4) x85 x86 x87 (.pointer (some ⟨rb,0,none⟩)) (p.v) x90 x91 x92 g w1) := ⟨F.q3,fun _ => (show _ from (by simp [hdep] : d_ 3 = true)),F.q6,fun h => ⟨rfl,(F.q7 h).2⟩,fun h => ⟨(F.q8 h).1,(F.q8 h).2.1,(F.q8 h).2.2.1,(F.q8 h).2.2.2.1,rfl,(F.q8 h).2.2.2.2.2.1,(F.q8 h).2.2.2.2.2.2.1,(F.q8 h).2.2.2.2.2.2.2⟩,F.f0,F.f1,F.f2,F.f3,fun _ => rfl,F.f5,F.f6,F.f7,F.st0,F.st1,F.st2⟩
      clear F
      go_simp
      exact HK.out _ _ ⟨_,_,_,_,_,_,_,_,_,rfl,HF.out⟩
    · have HF : Hid (best14F mx mb b4 seen f left rb k rc p ta S0 S1 S2 (upd d_ 5) x85 x86 x87 x88 x89 (.slice (some ⟨rb,0,none⟩) (k + 1) rc) x91 x92 g w1) := ⟨F.q3,F.q4,fun h => rfl,F.q7,fun h => ⟨(F.q8 h).1,(F.q8 h).2.1,(F.q8 h).2.2.1,(F.q8 h).2.2.2.1,(F.q8 h).2.2.2.2.1,rfl,(F.q8 h).2.2.2.2.2.2.1,(F.q8 h).2.2.2.2.2.2.2⟩,F.f0,F.f1,F.f2,F.f3,F.f4,fun _ => rfl,F.f6,F.f7,F.st0,F.st1,F.st2⟩
      clear F
      go_simp
      exact HK.out _ _ ⟨_,_,_,_,_,_,_,_,_,rfl,HF.out⟩
    · obtain rfl := F.f5 (by simp [hdep])
      have HF : Hid (best14F mx mb b4 seen f left rb k rc p ta S0 S1 S2 (upd d_ 6) x85 x86 x87 x88 x89 (.slice (some ⟨rb,0,none⟩) (k + 1) rc) (.slice ta k (rc - 1)) x92 g w1) := ⟨F.q3,F.q4,fun _ => (show _ from (by simp [hdep] : d_ 5 = true)),fun h => ⟨(F.q7 h).1,rfl⟩,fun h => ⟨(F.q8 h).1,(F.q8 h).2.1,(F.q8 h).2.2.1,(F.q8 h).2.2.2.1,(F.q8 h).2.2.2.2.1,(F.q8 h).2.2.2.2.2.1,rfl,(F.q8 h).2.2.2.2.2.2.2⟩,F.f0,F.f1,F.f2,F.f3,F.f4,F.f5,fun _ => rfl,F.f7,F.st0,F.st1,F.st2⟩
      clear F
      have hkc2 : k + 1 ≤ rc := hkc
      have hta2 := hta
      have h1k : (1 : Int) ≤ (k : Int) + 1 := by omega
      go_simp
      exact HK.out _ _ ⟨_,_,_,_,_,_,_,_,_,rfl,HF.out⟩
    · have hS := F.st0  hd_
      obtain rfl := F.f4 (by simp [hdep])
      obtain rfl := F.f6 (by simp [hdep])
      have hc := kc7.out w1 hS
      have HF := Lib.hid F
      clear F
      go_simp
      refine ⟨trivial,rfl,wideAt_calls (hc.mono ?_)⟩
      rintro e w5 ⟨v_,rfl,hres⟩
      exact HK.out _ _ ⟨_,_,_,_,_,_,_,_,v_,rfl,⟨HF.out.q3,HF.out.q4,HF.out.q6,fun _ => ⟨(show _ from (by simp [hdep] : d_ 4 = true)),(show _ from (by simp [hdep] : d_ 6 = true))⟩,fun h => ⟨(HF.out.q8 h).1,(HF.out.q8 h).2.1,(HF.out.q8 h).2.2.1,(HF.out.q8 h).2.2.2.1,(HF.out.q8 h).2.2.2.2.1,(HF.out.q8 h).2.2.2.2.2.1,(HF.out.q8 h).2.2.2.2.2.2.1,rfl⟩,HF.out.f0,HF.out.f1,HF.out.f2,HF.out.f3,HF.out.f4,HF.out.f5,HF.out.f6,fun _ => rfl,fun h => (by simp [upd] at h),fun _ _ => hres,fun h => (by have h2 : d_ 7 = true := (HF.out.q8 h).2.2.2.2.2.2.2; rw [show d_ 7 = false from hd_] at h2; cases h2)⟩⟩
    · have hS := F.st1 (by simp [hdep] : d_ 7 = true) hd_
      obtain rfl := F.f0 (by simp [hdep])
      obtain rfl := F.f1 (by simp [hdep])
      obtain rfl := F.f7 (by simp [hdep])
      obtain ⟨w_,hr,hres⟩ := kc8.out g w1 hS
      have HF : Hid (best14F mx mb b4 seen f left rb k rc p ta S0 S1 S2 (upd d_ 8) (.map (some mb)) (.agg #[.int .i64 seen,.int .i64 f,.int .i64 left]) x87 x88 x89 x90 x91 (g.v) g w_) := ⟨F.q3,F.q4,F.q6,F.q7,fun _ => ⟨(show _ from (by simp [hdep] : d_ 0 = true)),(show _ from (by simp [hdep] : d_ 1 = true)),(show _ from (by simp [hdep] : d_ 2 = true)),(show _ from (by simp [hdep] : d_ 3 = true)),(show _ from (by simp [hdep] : d_ 4 = true)),(show _ from (by simp [hdep] : d_ 5 = true)),(show _ from (by simp [hdep] : d_ 6 = true)),(show _ from (by simp [hdep] : d_ 7 = true))⟩,F.f0,F.f1,F.f2,F.f3,F.f4,F.f5,F.f6,F.f7,fun h => (by have h2 : d_ 7 = false := h; rw [(by simp [hdep] : d_ 7 = true)] at h2; cases h2),fun _ h => (by simp [upd] at h),fun _ => hres⟩
      clear F hS hres
      go_simp
      exact HK.out _ _ ⟨_,_,_,_,_,_,_,_,_,rfl,HF.out⟩
  · rintro d_ a_ w1 hall ⟨x85,x86,x87,x88,x89,x90,x91,x92,g,rfl,F⟩
    have hall' : ∀ k,k < 9 → d_ k = true := hall
    obtain rfl := F.f0 (hall' 0 (by decide))
    obtain rfl := F.f1 (hall' 1 (by decide))
    obtain rfl := F.f2 (hall' 2 (by decide))
    obtain rfl := F.f3 (hall' 3 (by decide))
    obtain rfl := F.f4 (hall' 4 (by decide))
    obtain rfl := F.f5 (hall' 5 (by decide))
    obtain rfl := F.f6 (hall' 6 (by decide))
    obtain rfl := F.f7 (hall' 7 (by decide))
    have hst := F.st2 (hall' 8 (by decide))
    exact HQ.out g w1 hst
end Go.Proofs.Ytphefhpmbahagaa
