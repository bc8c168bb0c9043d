/- Plans: the least of several. -/
import Derived.Test.YtphefhpmbahagaaT39
namespace Go.Proofs.Ytphefhpmbahagaa
open Go.RowKit
set_option linter.unusedVariables false
set_option linter.unusedSimpArgs false

def noPV : PV := ⟨[],0,none,0⟩
def gp (l : List PV) (k : Nat) : PV := l.getD k noPV
/-- A slice of plans that can be read. -/
def IsPlns (w : World) (a : Option Addr) (l : List PV) : Prop :=
  ∀ i,i < l.length → ∃ b off,a = some ⟨b,off,none⟩ ∧ w.cell? ⟨b,off + i * 2,none⟩ = some (.slice (gp l i).a (gp l i).o.length (gp l i).c) ∧ w.cell? ⟨b,off + i * 2 + 1,none⟩ = some (.int .i64 (gp l i).over) ∧ IsInts w (gp l i).a (gp l i).o
theorem IsPlns.mono {w w' : World} {a : Option Addr} {l : List PV} (h : IsPlns w a l) (hb : Below w.heap.size w w') : IsPlns w' a l := fun i hi => by
  obtain ⟨b,off,ha,h0,h1,h2⟩ := h i hi
  exact ⟨b,off,ha,cell_stays hb h0,cell_stays hb h1,h2.mono hb⟩
/-- The best plan,the first such. -/
def leastP (f : PV) (l : List PV) : PV := l.foldl (fun f x => if betE x.p f.p < 0 then x else f) f
theorem leastP_succ (f : PV) {l : List PV} {k : Nat} (h : k < l.length) : leastP f (l.take (k + 1)) = if betE (gp l k).p (leastP f (l.take k)).p < 0 then gp l k else leastP f (l.take k) := by
  have e : l[k] = gp l k := by simp [gp,h]
  unfold leastP
  rw [List.take_succ_eq_append_getElem h,List.foldl_append,e]
  rfl
theorem leastP_all {Q : PV → Prop} : ∀ (l : List PV) (f : PV),Q f → (∀ x ∈ l,Q x) → Q (leastP f l)
  | [],f,hf,_ => hf
  | y :: l,f,hf,hl => by
    have h1 : leastP f (y :: l) = leastP (if betE y.p f.p < 0 then y else f) l := rfl
    rw [h1]
    refine leastP_all l _ ?_ (fun x hx => hl x (by simp [hx]))
    split
    · exact hl y (by simp)
    · exact hf
theorem res_c98 {fn : Func} {p : Tmp} (h : fn.results = #[.cell p 98]) (tmps : Array Value) {w : World} {a : Nat} {x y : Value} (hp : tmps.getD p undef = .pointer (some ⟨a,0,none⟩)) (hx : w.cell? ⟨a,0,none⟩ = some x) (hy : w.cell? ⟨a,1,none⟩ = some y) :
    (results fn tmps).run Try.prog w = .ok (.agg #[x,y]) w := by
  have hp' : tmps[p]?.getD undef = .pointer (some ⟨a,0,none⟩) := by simpa using hp
  simp [results,h,hp',hx,hy,go_sem]
theorem betE_low (x y : List Int × Int) : -1 ≤ betE x y ∧ betE x y ≤ 1 := by
  unfold betE
  have h1 := cmpI_cases (-(x.1.length : Int)) (-(y.1.length : Int))
  have h2 := cmpI_cases x.2 y.2
  have h3 := cmpL_cases x.1 y.1
  split
  · split <;> omega
  · omega
set_option maxRecDepth 100000 in
set_option maxHeartbeats 4000000 in
theorem least92 {f : PV} {l : List PV} (hf : f.o.length ≤ 1000) (hl : ∀ x ∈ l,x.o.length ≤ 1000) (hN : l.length ≤ 1000) {a : Option Addr} {cap : Nat} {w : World} (iF : IsInts w f.a f.o) (ia : IsPlns w a l) :
    Calls Try.prog 92 #[.func (.func 93) #[] #[],f.v,.slice a l.length cap] w fun e w' => e = .returned (leastP f l).v ∧ Below w.heap.size w w' := by
  obtain ⟨q0,q1,hz,hb⟩ := heap2 w (.cells f.arr 98) (.cells #[.slice none 0 0,.int .i64 0] 98)
  have HL := Lib.hid hl
  have HI := Lib.hid (And.intro iF ia)
  have HF := Lib.hid hf
  clear iF ia hl hf
  go_enter Try.func92,Try.ntmps92
  go_upto_region 1 with fail
  revert q0 q1 hz hb
  generalize (w.alloc (.cells f.arr 98)).alloc (.cells #[.slice none 0 0,.int .i64 0] 98) = w1
  intro q0 q1 hz hb
  have HB := Lib.hid (And.intro hb (And.intro hz (And.intro q0 q1)))
  clear q0 q1 hz hb
  go_wp2_with fail
  go_loopw [11] (fun i wr => ∃ (k : Nat) (g : PV),k ≤ l.length ∧ i = .int .i64 k ∧ Hid (g = leastP f (l.take k)) ∧ Hid (wr.heap[w.heap.size]? = some (.cells g.arr 98 (0,0)) ∧ wr.heap[w.heap.size + 1]? = some (.cells #[.slice none 0 0,.int .i64 0] 98 (0,0))) ∧ Hid (Below w.heap.size w wr ∧ w1.heap.size ≤ wr.heap.size ∧ IsInts w g.a g.o ∧ g.o.length ≤ 1000)) (fun i _ => l.length - (intOf i).toNat)
  case atStart => exact ⟨0,f,by omega,rfl,rfl,⟨HB.out.2.2.1,HB.out.2.2.2⟩,HB.out.1,Nat.le_refl _,HI.out.1,HF.out⟩
  case round =>
    obtain ⟨k,g,hk,rfl,HG,HC,HR⟩ := hrel
    have hz1 := HB.out.2.1
    have hzr := HR.out.2.1
    have b0 : w.heap.size < wr.heap.size := by omega
    have b1 : w.heap.size + 1 < wr.heap.size := by omega
    by_cases hlt : k < l.length
    · obtain ⟨bb,off,rfl,i0,i1,_⟩ := (HI.out.2.mono HR.out.1) k hlt
      have i2 : IsInts w (gp l k).a (gp l k).o := by obtain ⟨_,_,_,_,_,i2⟩ := HI.out.2 k hlt; exact i2
      have hm : gp l k ∈ l := by simp [gp,hlt]
      have HS := Lib.hid (leastP_succ f hlt)
      obtain ⟨x,hx⟩ : ∃ x,x = gp l k := ⟨_,rfl⟩
      rw [← hx] at i0 i1 i2 HS hm
      have hxl := HL.out _ hm
      rw [← HG.out] at HS
      obtain ⟨c,hc⟩ : ∃ c,c = betE x.p g.p := ⟨_,rfl⟩
      have hcb := betE_low x.p g.p
      rw [← hc] at hcb HS
      obtain ⟨g0,g1⟩ : wr.cell? ⟨w.heap.size,0,none⟩ = some (.slice g.a g.o.length g.c) ∧ wr.cell? ⟨w.heap.size,1,none⟩ = some (.int .i64 g.over) := by
        constructor <;> (rw [cell_of_heap HC.out.1]; rfl)
      have hba : Below wr.heap.size wr (wr.alloc (.cells x.arr 98)) := (Below.refl _ wr).alloc (Nat.le_refl _) _
      have HCL : Hid (Calls Try.prog 93 #[x.v,g.v] (wr.alloc (.cells x.arr 98)) fun e w' => e = .returned (.int .i64 c) ∧ Below (wr.alloc (.cells x.arr 98)).heap.size (wr.alloc (.cells x.arr 98)) w') := by
        rw [hc]; exact better93 hxl HR.out.2.2.2 (i2.mono (HR.out.1.trans (hba.mono HR.out.1.size))) (HR.out.2.2.1.mono (HR.out.1.trans (hba.mono HR.out.1.size)))
      have qa := World.alloc_heap_new wr (.cells x.arr 98)
      have HQ := Lib.hid (And.intro hba (And.intro qa (And.intro i2 hxl)))
      clear hba qa i2 hxl hm hx hc
      go_wp2_with fail
      refine HCL.out.mono ?_
      rintro e w5 ⟨rfl,hb5⟩
      have hB5 : Below wr.heap.size wr w5 := HQ.out.1.trans (hb5.mono (by simp))
      have hzr5 : wr.heap.size < w5.heap.size := by have := hb5.size; simp at this; omega
      have h5 := (hb5.block _ (heap_lt HQ.out.2.1)).trans HQ.out.2.1
      have j0 : w5.cell? ⟨wr.heap.size,0,none⟩ = some (.slice x.a x.o.length x.c) := by rw [cell_of_heap h5]; rfl
      have j1 : w5.cell? ⟨wr.heap.size,1,none⟩ = some (.int .i64 x.over) := by rw [cell_of_heap h5]; rfl
      have H5 := Lib.hid (And.intro hB5 (And.intro ((hB5.block _ (heap_lt HC.out.1)).trans HC.out.1) ((hB5.block _ (heap_lt HC.out.2)).trans HC.out.2)))
      have g0' := cell_stays hB5 g0
      have g1' := cell_stays hB5 g1
      have fz : ∀ k,w5.frozen? ⟨w.heap.size,k,none⟩ = false := fun k => frozen_of_heap ((hB5.block _ (heap_lt HC.out.1)).trans HC.out.1)
      clear hb5 hB5 h5 HCL g0 g1 i0 i1
      by_cases h0 : c < 0
      · have hd : decide (c < 0) = true := by simpa using h0
        rw [if_pos h0] at HS
        clear h0
        go_wp2_with fail
        go_roundw
        case rel =>
          have hS : Same (fun b => b = w.heap.size) wr ((w5.setCell ⟨w.heap.size,0,none⟩ (.slice x.a x.o.length x.c)).setCell ⟨w.heap.size,1,none⟩ (.int .i64 x.over)) := ((Same.of_below (fun b => b = w.heap.size) H5.out.1).setCell (p := ⟨w.heap.size,0,none⟩) (.inl rfl) _).setCell (p := ⟨w.heap.size,1,none⟩) (.inl rfl) _
          have hBW : Below w.heap.size w ((w5.setCell ⟨w.heap.size,0,none⟩ (.slice x.a x.o.length x.c)).setCell ⟨w.heap.size,1,none⟩ (.int .i64 x.over)) := ((HR.out.1.trans (H5.out.1.mono (by omega))).setCell (Nat.le_refl _) _).setCell (Nat.le_refl _) _
          refine ⟨k + 1,x,by omega,by go_num,by rw [Hid,HS.out],⟨heap_setCell_at (k := 1) (heap_setCell_at (k := 0) H5.out.2.1 _) _,?_⟩,hBW,by simp; omega,HQ.out.2.2.1,HQ.out.2.2.2⟩
          exact (Below.heap_setCell _ _ _ _ (by show w.heap.size + 1 ≠ w.heap.size; omega)).trans ((Below.heap_setCell _ _ _ _ (by show w.heap.size + 1 ≠ w.heap.size; omega)).trans H5.out.2.2)
        case measure => simp [intOf]; omega
      · have hd : decide (c < 0) = false := by simpa using h0
        rw [if_neg h0] at HS
        clear h0
        go_wp2_with fail
        go_roundw
        case rel => exact ⟨k + 1,g,by omega,by go_num,by rw [Hid,HS.out],⟨H5.out.2.1,H5.out.2.2⟩,HR.out.1.trans (H5.out.1.mono (by omega)),by omega,HR.out.2.2.1,HR.out.2.2.2⟩
        case measure => simp [intOf]; omega
    · obtain rfl : k = l.length := by omega
      rw [List.take_length] at HG
      obtain ⟨g0,g1⟩ : wr.cell? ⟨w.heap.size,0,none⟩ = some (.slice g.a g.o.length g.c) ∧ wr.cell? ⟨w.heap.size,1,none⟩ = some (.int .i64 g.over) := by
        constructor <;> (rw [cell_of_heap HC.out.1]; rfl)
      obtain ⟨u0,u1⟩ : wr.cell? ⟨w.heap.size + 1,0,none⟩ = some (.slice none 0 0) ∧ wr.cell? ⟨w.heap.size + 1,1,none⟩ = some (.int .i64 0) := by
        constructor <;> (rw [cell_of_heap HC.out.2]; rfl)
      have fz : ∀ k,wr.frozen? ⟨w.heap.size + 1,k,none⟩ = false := fun k => frozen_of_heap HC.out.2
      go_wp2_with fail
      have Q2 := heap_setCell_at (k := 1) (heap_setCell_at (k := 0) HC.out.2 (.slice g.a g.o.length g.c)) (.int .i64 g.over)
      refine bodyPost_ret (res_c98 rfl _ rfl ((cell_of_heap Q2).trans rfl) ((cell_of_heap Q2).trans rfl)) rfl ?_
      exact ⟨by rw [← HG.out]; rfl,(HR.out.1.setCell (Nat.le_succ _) _).setCell (Nat.le_succ _) _⟩
end Go.Proofs.Ytphefhpmbahagaa
