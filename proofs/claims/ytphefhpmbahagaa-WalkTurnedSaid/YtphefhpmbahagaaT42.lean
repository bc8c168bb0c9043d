/- The best sure order: plain words; what is known of it. -/
import Derived.Test.YtphefhpmbahagaaT41
namespace Go.Proofs.Ytphefhpmbahagaa
open Go.RowKit
set_option linter.unusedVariables false
set_option linter.unusedSimpArgs false

/-! ### plain words -/
def leastE (f : List Int × Int) (l : List (List Int × Int)) : List Int × Int := l.foldl (fun f x => if betE x f < 0 then x else f) f
theorem leastP_p : ∀ (l : List PV) (f : PV),(leastP f l).p = leastE f.p (l.map PV.p)
  | [],f => rfl
  | y :: l,f => by
    have h1 : leastP f (y :: l) = leastP (if betE y.p f.p < 0 then y else f) l := rfl
    have h2 : leastE f.p ((y :: l).map PV.p) = leastE (if betE y.p f.p < 0 then y.p else f.p) (l.map PV.p) := rfl
    rw [h1,h2,leastP_p l]
    split <;> rfl
/-- How many views are left. -/
def Tr.free (t : Tr) (seen : Nat) : Nat := (List.range t.frm.length).countP fun v => !seen.testBit v
/-- When one is through a view,if one leaves another one at some minute,as late as can be; none: too late. -/
def Tr.thru (t : Tr) (f : Int) (v : Nat) (left : Int) : Option Int := if (t.begin f v (left,left)).2 ≤ (gs t.light v).hi then some ((t.begin f v (left,left)).2 + (gs t.stay v).hi) else none
def Tr.bestF (t : Tr) : Nat → Nat → Int → Int → List Int × Int
  | 0,_,_,left => ([],left)
  | d + 1,seen,f,left => leastE ([],left) ((List.range t.frm.length).filterMap fun v => if seen.testBit v then none else (t.thru f v left).map fun q => ((v : Int) :: (t.bestF d (seen ||| 2 ^ v) v q).1,(t.bestF d (seen ||| 2 ^ v) v q).2))
def Tr.bestV (t : Tr) (seen : Nat) (f left : Int) : List Int × Int := t.bestF (t.free seen) seen f left
/-- What comes of a view that is next. -/
def Tr.candV (t : Tr) (seen : Nat) (f left : Int) (v : Nat) : Option (List Int × Int) := if seen.testBit v then none else (t.thru f v left).map fun q => ((v : Int) :: (t.bestV (seen ||| 2 ^ v) v q).1,(t.bestV (seen ||| 2 ^ v) v q).2)
theorem countP_split {p q : Nat → Bool} {v : Nat} : ∀ {l : List Nat},l.Nodup → v ∈ l → p v = true → q v = false → (∀ x ∈ l,x ≠ v → p x = q x) → l.countP p = l.countP q + 1
  | [],_,h,_,_,_ => by cases h
  | x :: l,hd,h,hp,hq,he => by
    rw [List.nodup_cons] at hd
    rw [List.countP_cons,List.countP_cons]
    by_cases e : x = v
    · subst e
      have : l.countP p = l.countP q := List.countP_congr (fun y hy => by
        have := he y (by simp [hy]) (fun e => hd.1 (by rw [← e]; exact hy))
        rw [this])
      rw [this,hp,hq]
      simp
    · have hm : v ∈ l := by rcases List.mem_cons.1 h with h | h; exact absurd h.symm e; exact h
      have ih := countP_split hd.2 hm hp hq (fun y hy => he y (by simp [hy]))
      have hx := he x (by simp) e
      rw [ih,hx]
      omega
theorem free_less (t : Tr) {seen v : Nat} (hv : v < t.frm.length) (h : seen.testBit v = false) : t.free seen = t.free (seen ||| 2 ^ v) + 1 := by
  unfold Tr.free
  refine countP_split (v := v) List.nodup_range (List.mem_range.2 hv) (by simp [h]) (by simp [Nat.testBit_or,Nat.testBit_two_pow]) (fun x _ hx => ?_)
  have e : decide (v = x) = false := by simpa using fun e => hx e.symm
  rw [Nat.testBit_or,Nat.testBit_two_pow,e,Bool.or_false]
theorem filterMap_same {α β : Type} {f g : α → Option β} : ∀ {l : List α},(∀ x ∈ l,f x = g x) → l.filterMap f = l.filterMap g
  | [],_ => rfl
  | x :: l,h => by
    rw [List.filterMap_cons,List.filterMap_cons,h x (by simp),filterMap_same (fun y hy => h y (by simp [hy]))]
theorem best_step (t : Tr) (seen : Nat) (f left : Int) : t.bestV seen f left = leastE ([],left) ((List.range t.frm.length).filterMap (t.candV seen f left)) := by
  unfold Tr.bestV
  cases hf : t.free seen with
  | zero =>
    have h0 : ∀ v ∈ List.range t.frm.length,t.candV seen f left v = none := fun v hv => by
      unfold Tr.free at hf
      rw [List.countP_eq_zero] at hf
      have := hf v hv
      unfold Tr.candV
      rw [if_pos (by simpa using this)]
    have : (List.range t.frm.length).filterMap (t.candV seen f left) = [] := by
      rw [List.filterMap_eq_nil_iff]; exact h0
    rw [this]
    rfl
  | succ d =>
    rw [Tr.bestF]
    congr 1
    refine filterMap_same (fun v hv => ?_)
    have hv : v < t.frm.length := by simpa using hv
    unfold Tr.candV
    cases hb : seen.testBit v
    · have := free_less t hv hb
      have e : t.free (seen ||| 2 ^ v) = d := by omega
      unfold Tr.bestV
      rw [e]
    · rfl
theorem leastE_all {Q : List Int × Int → Prop} : ∀ (l : List (List Int × Int)) (f : List Int × Int),Q f → (∀ x ∈ l,Q x) → Q (leastE f l)
  | [],f,hf,_ => hf
  | y :: l,f,hf,hl => by
    have h1 : leastE f (y :: l) = leastE (if betE y f < 0 then y else f) l := rfl
    rw [h1]
    refine leastE_all l _ ?_ (fun x hx => hl x (by simp [hx]))
    split
    · exact hl y (by simp)
    · exact hf
theorem best_len (t : Tr) : ∀ (d seen : Nat) (f left : Int),t.free seen ≤ d → (t.bestV seen f left).1.length ≤ d
  | 0,seen,f,left,h => by
    have h0 : t.free seen = 0 := by omega
    unfold Tr.bestV
    rw [h0]
    simp [Tr.bestF]
  | d + 1,seen,f,left,h => by
    rw [best_step]
    refine leastE_all (Q := fun x => x.1.length ≤ d + 1) _ _ (by simp) (fun x hx => ?_)
    rw [List.mem_filterMap] at hx
    obtain ⟨v,hv,hx⟩ := hx
    have hv : v < t.frm.length := by simpa using hv
    unfold Tr.candV at hx
    cases hb : seen.testBit v
    · rw [hb] at hx
      simp only [Bool.false_eq_true,if_false,Option.map_eq_some_iff] at hx
      obtain ⟨q,_,rfl⟩ := hx
      have := free_less t hv hb
      have := best_len t d (seen ||| 2 ^ v) v q (by omega)
      simp
      omega
    · rw [hb] at hx; simp at hx
theorem free_le (t : Tr) (seen : Nat) : t.free seen ≤ t.frm.length := by
  unfold Tr.free
  refine Nat.le_trans List.countP_le_length ?_
  simp
theorem best_len6 {t : Tr} (h : t.frm.length ≤ 6) (seen : Nat) (f left : Int) : (t.bestV seen f left).1.length ≤ 6 := by
  have := best_len t (t.free seen) seen f left (Nat.le_refl _)
  have := free_le t seen
  omega

/-! ### keys -/
theorem laidOut : laidOutB Try.prog = true := by kernel_rfl
theorem tsize : Try.prog.types.size = 159 := by kernel_rfl
theorem keyed122 : Maps.Keyed Try.prog 122 :=
  Maps.Keyed.of_law (deep_law_laid laidOut (m := 3) (by decide) (by rw [tsize]; decide) (by kernel_rfl) (by kernel_rfl))
theorem keyType122 : Try.prog.keyType 122 = true := by kernel_rfl
theorem cells3 : Try.prog.cellsOf 3 = 1 := by kernel_rfl
theorem cells122 : Try.prog.cellsOf 122 = 3 := by kernel_rfl
theorem lits122 (n : Nat) (a b c : Int) (ha : (Lit.int .i64 a).wf = true) (hb : (Lit.int .i64 b).wf = true) (hc : (Lit.int .i64 c).wf = true) :
    ∃ l,Try.prog.keyLits (n + 1 + 1) 122 [.int .i64 a,.int .i64 b,.int .i64 c] = some l := by
  simp [Program.keyLits,Try.underlying122,Try.underlying3,cells122,cells3,ha,hb,hc]
theorem key122 (a b c : Int) (ha : (Lit.int .i64 a).wf = true) (hb : (Lit.int .i64 b).wf = true) (hc : (Lit.int .i64 c).wf = true) : ∃ l,keyOf Try.prog 122 (.agg #[.int .i64 a,.int .i64 b,.int .i64 c]) = some l := by
  obtain ⟨l,hl⟩ := lits122 158 a b c ha hb hc
  have hl' : Try.prog.keyLits 160 122 [.int .i64 a,.int .i64 b,.int .i64 c] = some l := hl
  refine ⟨.string (keyBytes l),?_⟩
  simp [keyOf,Try.underlying122,keyType122,Value.formed,cells122,Value.cells,tsize,hl']
theorem wf_i64 {x : Int} (h0 : -9223372036854775808 ≤ x) (h1 : x ≤ 9223372036854775807) : (Lit.int .i64 x).wf = true := by
  have e1 : IntKind.i64.min = -9223372036854775808 := by decide
  have e2 : IntKind.i64.max = 9223372036854775807 := by decide
  simp [Lit.wf,e1,e2]
  omega
/-- A state: what has been seen,where one is,when one leaves. -/
structure StV where
  seen : Nat
  f : Int
  left : Int
abbrev StV.arr (s : StV) : Array Value := #[.int .i64 s.seen,.int .i64 s.f,.int .i64 s.left]
abbrev StV.v (s : StV) : Value := .agg s.arr
structure StV.Ok (t : Tr) (s : StV) : Prop where
  seen : s.seen < 64
  f : s.f = -1 ∨ ∃ m : Nat,s.f = m ∧ m < t.frm.length
  left : 0 ≤ s.left ∧ s.left ≤ 2880
theorem state_key {t : Tr} {s : StV} (h6 : t.frm.length ≤ 6) (h : s.Ok t) : ∃ l,keyOf Try.prog 122 s.v = some l := by
  have h1 := h.seen
  have h3 := h.left
  refine key122 _ _ _ (wf_i64 (by omega) (by omega)) (wf_i64 ?_ ?_) (wf_i64 (by omega) (by omega))
  · rcases h.f with e | ⟨m,e,hm⟩ <;> rw [e] <;> omega
  · rcases h.f with e | ⟨m,e,hm⟩ <;> rw [e] <;> omega
theorem state_inj {s r : StV} (h : s.v = r.v) : s = r := by
  obtain ⟨a,b,c⟩ := s
  obtain ⟨a',b',c'⟩ := r
  simp only [StV.v,Value.agg.injEq,Array.mk.injEq,List.cons.injEq,Value.int.injEq,true_and,and_true] at h
  obtain ⟨h1,h2,h3⟩ := h
  simp; omega
/-! ### orders that lie in memory of their own -/
/-- An order lies where only numbers lie,in memory from B on. -/
def OrdAt (B : Nat) (w : World) (p : PV) : Prop := (p.o = [] ∧ p.a = none ∧ p.c = 0) ∨ ∃ (b : Nat) (cur : Array Value),B ≤ b ∧ p.a = some ⟨b,0,none⟩ ∧ w.heap[b]? = some (.cells cur 3 (0,0)) ∧ (∀ i,i < p.o.length → cur[i]? = some (.int .i64 (gi p.o i))) ∧ p.o.length ≤ p.c
theorem OrdAt.ints {B : Nat} {w : World} {p : PV} (h : OrdAt B w p) : IsInts w p.a p.o := fun i hi => by
  rcases h with ⟨h,_⟩ | ⟨b,cur,_,ha,hb,hc,_⟩
  · rw [h] at hi; simp at hi
  · exact ⟨b,0,ha,by rw [cell_of_heap hb,Nat.zero_add]; exact hc i hi⟩
/-- Where numbers lie nothing is changed. -/
def Keeps3 (w w' : World) : Prop := ∀ (b : Nat) (cur : Array Value),w.heap[b]? = some (.cells cur 3 (0,0)) → w'.heap[b]? = some (.cells cur 3 (0,0))
theorem Keeps3.refl (w : World) : Keeps3 w w := fun _ _ h => h
theorem Keeps3.trans {a b c : World} (h : Keeps3 a b) (k : Keeps3 b c) : Keeps3 a c := fun x y z => k x y (h x y z)
theorem Keeps3.below {w w' : World} (h : Below w.heap.size w w') : Keeps3 w w' := fun b _ hb => (h.block _ (heap_lt hb)).trans hb
theorem Keeps3.same {w w' : World} {M : Nat → Prop} (h : Same M w w') (hm : ∀ k,M k → ∀ cur,w.heap[k]? ≠ some (.cells cur 3 (0,0))) : Keeps3 w w' := fun b cur hb => (h.block _ (heap_lt hb) (fun e => hm _ e cur hb)).trans hb
theorem OrdAt.keep {B : Nat} {w w' : World} {p : PV} (h : OrdAt B w p) (hk : Keeps3 w w') : OrdAt B w' p := by
  rcases h with h | ⟨b,cur,h0,ha,hb,hc⟩
  · exact .inl h
  · exact .inr ⟨b,cur,h0,ha,hk _ _ hb,hc⟩
/-- Where the slice of an order begins,and its capacity. -/
theorem OrdAt.lies {B : Nat} {w : World} {p : PV} (h : OrdAt B w p) : (p.o = [] ∧ p.a = none ∧ p.c = 0) ∨ ∃ b : Nat,B ≤ b ∧ p.a = some ⟨b,0,none⟩ ∧ p.o.length ≤ p.c := by
  rcases h with h | ⟨b,cur,h0,ha,_,_,hc⟩
  · exact .inl h
  · exact .inr ⟨b,h0,ha,hc⟩
theorem OrdAt.own {w : World} {B : Nat} {p : PV} (h : w.ownsRow B 3 1 (.slice p.a p.o.length p.c) p.o.length (p.o.map (Value.int .i64))) : OrdAt B w p := by
  rcases h.2 with ⟨h1,h0⟩ | ⟨g,cap,cur,hv,hg,hh,hcap,_⟩
  · simp only [Value.slice.injEq] at h1
    exact .inl ⟨List.eq_nil_of_length_eq_zero h0,h1.1,h1.2.2⟩
  · have hpc : p.c = cap := by simp only [Value.slice.injEq] at hv; exact hv.2.2
    have hv' : p.a = some ⟨g,0,none⟩ := by simp only [Value.slice.injEq] at hv; exact hv.1
    refine .inr ⟨g,cur,hg,hv',hh,fun i hi => ?_,by rw [hpc]; exact hcap⟩
    have hc := h.cells (g := g) (by rw [hv']; rfl) i (.int .i64 (gi p.o i)) (by simp [gi,hi])
    have e : ((⟨g,0,none⟩ : Addr).add i) = ⟨g,i,none⟩ := by unfold Addr.add; split <;> simp_all
    rw [e,cell_of_heap hh] at hc
    exact hc
/-! ### what is known already -/
structure KnE where
  s : StV
  p : PV
def KnownB (B : Nat) (t : Tr) (w : World) (mb : Nat) : Prop :=
  ∃ M : List KnE,MapRaw Try.prog 122 w mb (M.map fun X => (X.s.v,X.p.v)) ∧ ∀ X ∈ M,X.s.Ok t ∧ X.p.p = t.bestV X.s.seen X.s.f X.s.left ∧ OrdAt B w X.p
theorem KnownB.kept {B : Nat} {t : Tr} {w w' : World} {mb : Nat} (h : KnownB B t w mb) (hb : w'.heap[mb]? = w.heap[mb]?) (hk : Keeps3 w w') : KnownB B t w' mb := by
  obtain ⟨M,h1,h2⟩ := h
  exact ⟨M,h1.kept hb,fun X hX => ⟨(h2 X hX).1,(h2 X hX).2.1,(h2 X hX).2.2.keep hk⟩⟩
theorem KnownB.lt {B : Nat} {t : Tr} {w : World} {mb : Nat} (h : KnownB B t w mb) : mb < w.heap.size := by
  obtain ⟨M,h1,h2⟩ := h
  exact h1.lt
theorem KnownB.map {B : Nat} {t : Tr} {w : World} {mb : Nat} (h : KnownB B t w mb) : ∃ es c,w.heap[mb]? = some (.map es c) := by
  obtain ⟨M,⟨es,clock,h1,_⟩,_⟩ := h
  exact ⟨es,clock,h1⟩
theorem infoPl : (Try.prog.info? 98).map (fun i => (i.zero,i.size,i.bytes)) = some (some (.agg #[.slice none 0 0,.int .i64 0]),2,32) := by kernel_rfl
theorem zero98 (w : World) : (zeroValue 98).run Try.prog w = .ok (.agg #[.slice none 0 0,.int .i64 0]) w := by
  obtain ⟨i0,hi0,hz0,_⟩ := info_parts2 infoPl
  simp [zeroValue,typeInfo,hi0,hz0,Result.andThen]
theorem KnownB.look {B : Nat} {t : Tr} {w : World} {mb : Nat} {s : StV} (h6 : t.frm.length ≤ 6) (h : KnownB B t w mb) (hs : s.Ok t) :
    ∃ (p : PV) (ok : Bool),(∀ w',w'.heap[mb]? = w.heap[mb]? → (Instr.lookup 119 (.map (some mb)) s.v true).run Try.prog w' = .ok (.tuple #[p.v,.bool ok]) w') ∧ (ok = true → p.p = t.bestV s.seen s.f s.left ∧ OrdAt B w p) := by
  obtain ⟨M,h1,h2⟩ := h
  by_cases hm : ∃ X ∈ M,X.s = s
  · obtain ⟨X,hX,rfl⟩ := hm
    obtain ⟨v,ok,hr,hc⟩ := h1.look keyed122 Try.underlying119 (state_key h6 hs) (zero98 w) true
    rcases hc with ⟨rfl,rfl,hn⟩ | ⟨rfl,hmm⟩
    · exact (hn (X.s.v,X.p.v) (List.mem_map.2 ⟨X,hX,rfl⟩) rfl).elim
    · obtain ⟨Z,hZ,e⟩ := List.mem_map.1 hmm
      simp only [Prod.mk.injEq] at e
      have hzs := state_inj e.1
      refine ⟨Z.p,true,fun w' hw => ?_,fun _ => ⟨by rw [← hzs]; exact (h2 Z hZ).2.1,(h2 Z hZ).2.2⟩⟩
      obtain ⟨v',ok',hr',hc'⟩ := (h1.kept hw).look keyed122 Try.underlying119 (state_key h6 hs) (zero98 w') true
      have hnd := h1.nodup
      rcases hc' with ⟨rfl,rfl,hn⟩ | ⟨rfl,hmm'⟩
      · exact (hn (X.s.v,X.p.v) (List.mem_map.2 ⟨X,hX,rfl⟩) rfl).elim
      · have ev : v' = Z.p.v := by
          have h3 : ∀ {L : List (Value × Value)} {k a b : Value},(L.map (·.1)).Nodup → (k,a) ∈ L → (k,b) ∈ L → a = b := by
            intro L
            induction L with
            | nil => intro k a b _ h; cases h
            | cons y L ih =>
              intro k a b hd ha hb
              rw [List.map_cons,List.nodup_cons] at hd
              rcases List.mem_cons.1 ha with ha | ha <;> rcases List.mem_cons.1 hb with hb | hb
              · rw [← ha] at hb; cases hb; rfl
              · exact absurd (List.mem_map.2 ⟨(k,b),hb,by rw [← ha]⟩) hd.1
              · exact absurd (List.mem_map.2 ⟨(k,a),ha,by rw [← hb]⟩) hd.1
              · exact ih hd.2 ha hb
          rw [← e.2] at hmm
          exact h3 hnd hmm' hmm
        rw [ev] at hr'
        simpa using hr'
  · refine ⟨noPV,false,fun w' hw => ?_,fun h => by cases h⟩
    obtain ⟨v,ok,hr,hc⟩ := (h1.kept hw).look keyed122 Try.underlying119 (state_key h6 hs) (zero98 w') true
    rcases hc with ⟨rfl,rfl,hn⟩ | ⟨rfl,hmm⟩
    · show _ = Result.ok (Value.tuple #[.agg #[.slice none 0 0,.int .i64 0],.bool false]) w'
      simpa using hr
    · obtain ⟨X,hX,e⟩ := List.mem_map.1 hmm
      simp only [Prod.mk.injEq] at e
      exact (hm ⟨X,hX,state_inj e.1⟩).elim
end Go.Proofs.Ytphefhpmbahagaa
