/- Words on memory, walks and calls that recover, for the tours. -/
import Derived.Test.YtphefhpmbahagaaProg
import Derived.Test.YtphefhpmbahagaaPure
import Derived.Test.YtphefhpmbahagaaBase
import Derived.Test.YtphefhpmbahagaaBase6
import Derived.Deep.DeepCutAuto
namespace Go.Proofs.Ytphefhpmbahagaa
open Go.RowKit
set_option linter.unusedVariables false

theorem ret_bool {a b : Bool} (h : a = b) : Ending.returned (.bool a) = .returned (.bool b) := by rw [h]
theorem ret_int {k : IntKind} {a b : Int} (h : a = b) : Ending.returned (.int k a) = .returned (.int k b) := by rw [h]
theorem mixed : Try.prog.follows .mixedOrders = true := by kernel_rfl
theorem heap_lt {w : World} {g : Nat} {o : Obj} (h : w.heap[g]? = some o) : g < w.heap.size := (Array.getElem?_eq_some_iff.1 h).1
theorem heap_setCell_at {w : World} {b k : Nat} {c : Array Value} {t : TypeId} {f : Nat × Nat} (h : w.heap[b]? = some (.cells c t f)) (v : Value) :
    (w.setCell ⟨b,k,none⟩ v).heap[b]? = some (.cells (c.setIfInBounds k v) t f) := by
  simp [World.setCell,Array.getElem?_modify,h]
theorem cell_of_heap {w : World} {b k : Nat} {c : Array Value} {t : TypeId} {f : Nat × Nat} (h : w.heap[b]? = some (.cells c t f)) : w.cell? ⟨b,k,none⟩ = c[k]? := by simp [World.cell?,h]
theorem frozen_of_heap {w : World} {b k : Nat} {c : Array Value} {t : TypeId} (h : w.heap[b]? = some (.cells c t (0,0))) : w.frozen? ⟨b,k,none⟩ = false := by simp [World.frozen?,h]
theorem bst {B : Nat} {w w1 w2 : World} (h : Below B w w1) (k : Below w1.heap.size w1 w2) (hB : B ≤ w.heap.size) : Below B w w2 := h.trans (k.mono (Nat.le_trans hB h.size))

theorem own_base {w : World} {b b' : Nat} {e : TypeId} {s n : Nat} {v : Value} {xs : List Value} (h : w.ownsRow b e s v n xs) (hb : b' ≤ b) : w.ownsRow b' e s v n xs := by
  obtain ⟨h1,h2⟩ := h
  refine ⟨h1,?_⟩
  rcases h2 with h2 | ⟨g,cap,cur,hv,hg,r⟩
  · exact .inl h2
  · exact .inr ⟨g,cap,cur,hv,by omega,r⟩
theorem own_blocks {w w' : World} {B : Nat} {e : TypeId} {s n : Nat} {v : Value} {xs : List Value} (h : w.ownsRow B e s v n xs) (hk : ∀ g,v.ownBlock = some g → w'.heap[g]? = w.heap[g]?) : w'.ownsRow B e s v n xs := by
  obtain ⟨h1,h2⟩ := h
  refine ⟨h1,?_⟩
  rcases h2 with h2 | ⟨g,cap,cur,rfl,hg,hh,r⟩
  · exact .inl h2
  · exact .inr ⟨g,cap,cur,rfl,hg,(hk g rfl).trans hh,r⟩
theorem own_apart {w : World} {B B' : Nat} {e e' : TypeId} {s s' n n' : Nat} {v v' : Value} {xs ys : List Value} (h : w.ownsRow B e s v n xs) (h' : w.ownsRow B' e' s' v' n' ys) (he : e ≠ e') : ∀ g,v.ownBlock = some g → v'.ownBlock ≠ some g := by
  intro g hg hg'
  rcases h.2 with ⟨rfl,_⟩ | ⟨g1,cap,cur,rfl,_,hh,_⟩
  · cases hg
  · rcases h'.2 with ⟨rfl,_⟩ | ⟨g2,cap',cur',rfl,_,hh',_⟩
    · cases hg'
    · simp only [Value.ownBlock,Option.some.injEq] at hg hg'
      subst hg hg'
      rw [hh] at hh'
      simp only [Option.some.injEq,Obj.cells.injEq] at hh'
      exact he hh'.2.1
theorem own_ints {w : World} {base : Nat} {a : Option Addr} {l : List Int} {cap : Nat} (h : w.ownsRow base 3 1 (.slice a l.length cap) l.length (l.map (Value.int .i64))) : IsInts w a l := fun i hi => by
  obtain ⟨g,c,e,_,_,_,_,hc⟩ := own_cell h (by omega)
  cases e
  refine ⟨g,0,rfl,?_⟩
  rw [Nat.zero_add]
  exact hc i _ (by simp [gi,hi])
theorem wp_seq_hid {P : Program} {x y : Code} {Q : Exit → Act → World → Prop} {a : Act} {w : World} (h : ∀ K,Hid (∀ a' w',y.wp P Q a' w' → K a' w') → x.wp P (Exit.then K Q) a w) : (Code.seq x y).wp P Q a w :=
  wp_seq (h _ fun _ _ h => h)
theorem leaves_ok {fn : Func} {tmps : Array Value} {R : Ending → World → Prop} {f : Nat} {pe : Value} {w : World} (hok : CallsD Try.prog f #[pe] .returning w fun e u' w' => e = .returned (.tuple #[]) ∧ u' = .returning ∧ w = w')
    (hcf : ∀ args w,(callFunc f args).run Try.prog w = .ok (.enter f args) w) {v : Value} (hv : (results fn tmps).run Try.prog w = .ok v w) (hR : R (.returned v) w) :
    Leaves Try.prog fn tmps R [{ target := .fn (.func f) #[pe],args := #[] }] .returning w := by
  refine ⟨by simp,_,_,f,#[pe],rfl,?_,?_⟩
  · simp [invoke,go_sem,hcf]
  · refine CallsD.mono hok ?_
    rintro e u' w' ⟨rfl,rfl,rfl⟩
    exact ⟨v,hv,hR⟩
theorem leaves_no {fn : Func} {tmps : Array Value} {R : Ending → World → Prop} {f : Nat} {pe : Value} {w w' : World} {c c' : List PanicEntry}
    (hno : CallsD Try.prog f #[pe] (.panicking c) w fun e u' w'' => e = .returned (.tuple #[]) ∧ u' = .panicking c' ∧ w'' = w') (hs : settle (.panicking c') = .returning)
    (hcf : ∀ args w,(callFunc f args).run Try.prog w = .ok (.enter f args) w) {v : Value} (hv : (results fn tmps).run Try.prog w' = .ok v w') (hR : R (.returned v) w') :
    Leaves Try.prog fn tmps R [{ target := .fn (.func f) #[pe],args := #[] }] (.panicking c) w := by
  refine ⟨by simp,_,_,f,#[pe],rfl,?_,?_⟩
  · simp [invoke,go_sem,hcf]
  · refine CallsD.mono hno ?_
    rintro e u' w'' ⟨rfl,rfl,rfl⟩
    simp only [hs]
    exact ⟨v,hv,hR⟩
theorem wpIn_append_run {P : Program} {m : Nat} {w : World} {o : Oper} {a : Act} {K : Act → World → Prop} {Q : Exit → Act → World → Prop} (s x : Operand) (t : TypeId)
    (ho : o.op = .call { callee := .builtin .append,args := #[s,x],argTypes := #[t,t] }) (v xv v' : Value) (w' : World) (hs : a.eval s = v) (hx : a.eval x = xv)
    (hr : (Builtin.append_ #[t,t] o.type #[v,xv]).run P w = .ok v' w') (h : K (a.put o.dst v') w') : o.wpIn (wideAt none) m P a w K Q := by
  refine ⟨fun _ _ => trivial,?_⟩
  show o.uponIn _ _ P a K Q ((execOp a.eval o).run P w)
  unfold execOp
  simp only [ho,resolve,invoke,builtin,Sem.run_bind,Sem.run_pure,Result.andThen_ok,List.map_toArray,List.map_cons,List.map_nil,hs,hx,hr]
  exact h
theorem infoI : (Try.prog.info? 3).map (fun i => (i.zero,i.size,i.bytes)) = some (some (.int .i64 0),1,8) := by kernel_rfl
theorem results_tmp4 {fn : Func} {t u v x : Tmp} (h : fn.results = #[.tmp t,.tmp u,.tmp v,.tmp x]) (tmps : Array Value) (P : Program) (w : World) :
    (results fn tmps).run P w = .ok (.tuple #[tmps.getD t undef,tmps.getD u undef,tmps.getD v undef,tmps.getD x undef]) w := by
  simp [results,h]
def leftReg : Code → Option Nat
  | .region id _ _ => some id
  | .seq a _ => leftReg a
  | _ => none
def fromRegion (n : Nat) : Code → Option Code
  | .seq a b => if leftReg a = some n then some (.seq a b) else match fromRegion n a with
    | some c => some c
    | none => fromRegion n b
  | .block _ c => fromRegion n c
  | .scope c => fromRegion n c
  | .loop c => fromRegion n c
  | .cond _ a b => match fromRegion n a with
    | some c => some c
    | none => fromRegion n b
  | _ => none
def regionAt (n : Nat) : Code → Option Code
  | .region id ops dr => if id = n then some (.region id ops dr) else none
  | .seq a b => match regionAt n a with
    | some c => some c
    | none => regionAt n b
  | .block _ c => regionAt n c
  | .scope c => regionAt n c
  | .loop c => regionAt n c
  | .cond _ a b => match regionAt n a with
    | some c => some c
    | none => regionAt n b
  | _ => none
abbrev intArr (l : List Int) : Array Value := (l.map (Value.int .i64)).toArray
theorem intArr_set (l : List Int) (k : Nat) (x : Int) : (intArr l).setIfInBounds k (.int .i64 x) = intArr (l.set k x) := by simp [intArr,List.map_set]
/-! ### small functions -/
theorem within_any (n lo hi : Int) (w : World) :
    Calls Try.prog 95 #[.int .i64 n,.int .i64 lo,.int .i64 hi] w fun e w' => e = .returned (.bool (inR n lo hi)) ∧ w = w' := by
  unfold inR
  go_enter Try.func95,Try.ntmps95
  go_wp2
  all_goals go_ret
  all_goals refine ⟨ret_bool ?_,rfl⟩
  · have h : lo ≤ n := by assumption
    simp [h]
  · have h : n < lo := by assumption
    simp; omega
theorem need_yes (e : Int) (w : World) : Calls Try.prog 63 #[.bool true,.int .i64 e] w fun en w' => en = .returned (.tuple #[]) ∧ w = w' := by
  go_enter Try.func63,Try.ntmps63
  go_wp2
  go_end0
  exact ⟨rfl,rfl⟩
theorem need_no (e : Int) (w : World) : Calls Try.prog 63 #[.bool false,.int .i64 e] w fun en w' => en = .panicked [{ v := .iface 106 (.agg #[.int .i64 e]),recovered := false }] ∧ w = w' := by
  go_enter Try.func63,Try.ntmps63
  go_wp2
  exact ⟨rfl,rfl,rfl⟩
theorem caught_nil (pe : Value) (w : World) : Calls Try.prog 45 #[.nilIface,pe] w fun e w' => e = .returned (.tuple #[]) ∧ w = w' := by
  go_enter Try.func45,Try.ntmps45
  go_wp2
  refine bodyPost_ret (results_none rfl _ _ _) rfl ?_
  exact ⟨rfl,rfl⟩
theorem assert106 (v : Value) (w : World) : (Instr.typeAssert (.iface 106 v) 20 106 true).run Try.prog w = .ok (.tuple #[v,.bool true]) w := by
  simp [Instr.typeAssert,run_underlying Try.underlying106,Result.andThen]
theorem caught_misfit (x : Int) {b : Nat} {v : Value} {w : World} (hc : w.cell? ⟨b,0,none⟩ = some v) (hf : w.frozen? ⟨b,0,none⟩ = false) :
    Calls Try.prog 45 #[.iface 106 (.agg #[.int .i64 x]),.pointer (some ⟨b,0,none⟩)] w fun e w' => e = .returned (.tuple #[]) ∧ w' = (w.alloc (.cells #[.int .i64 x] 106)).setCell ⟨b,0,none⟩ (.int .i64 x) := by
  have hb := lt_of_cell hc
  have ha := assert106 (.agg #[.int .i64 x])
  go_enter Try.func45,Try.ntmps45
  go_wp2
  go_end0
  refine ⟨rfl,?_⟩
  rw [World.setCell_alloc_past _ _ _ _ hb]
theorem recov44_ok (pe : Value) (w : World) : CallsD Try.prog 44 #[pe] .returning w fun e u' w' => e = .returned (.tuple #[]) ∧ u' = .returning ∧ w = w' := by
  refine callsD_of_wpS Try.func44 rfl fun c₀ cs hu => ?_
  apply wpS_region
  simp [wpOpsS,go_sem,recoverD,hu,Try.ntmps44]
  refine (caught_nil pe w).mono ?_
  rintro e w' ⟨rfl,rfl⟩
  simp [bodyPostS,results,Try.results44]
  rw [← hu]
theorem recov44_no (x : Int) {b : Nat} {v : Value} {w : World} (hc : w.cell? ⟨b,0,none⟩ = some v) (hf : w.frozen? ⟨b,0,none⟩ = false) :
    CallsD Try.prog 44 #[.pointer (some ⟨b,0,none⟩)] (.panicking [{ v := .iface 106 (.agg #[.int .i64 x]),recovered := false }]) w fun e u' w' =>
      e = .returned (.tuple #[]) ∧ u' = .panicking [{ v := .iface 106 (.agg #[.int .i64 x]),recovered := true }] ∧ w' = (w.alloc (.cells #[.int .i64 x] 106)).setCell ⟨b,0,none⟩ (.int .i64 x) := by
  refine callsD_of_wpS Try.func44 rfl fun c₀ cs hu => ?_
  apply wpS_region
  simp [wpOpsS,go_sem,recoverD,hu,Try.ntmps44]
  refine (caught_misfit x hc hf).mono ?_
  rintro e w' ⟨rfl,rfl⟩
  simp [bodyPostS,results,Try.results44]
theorem cf44 (args : Array Value) (w : World) : (callFunc 44 args).run Try.prog w = .ok (.enter 44 args) w := by simp [callFunc,Try.func44,Try.f44,go_sem]
theorem recov53_ok (pe : Value) (w : World) : CallsD Try.prog 53 #[pe] .returning w fun e u' w' => e = .returned (.tuple #[]) ∧ u' = .returning ∧ w = w' := by
  refine callsD_of_wpS Try.func53 rfl fun c₀ cs hu => ?_
  apply wpS_region
  simp [wpOpsS,go_sem,recoverD,hu,Try.ntmps53]
  refine (caught_nil pe w).mono ?_
  rintro e w' ⟨rfl,rfl⟩
  simp [bodyPostS,results,Try.results53]
  rw [← hu]
theorem recov53_no (x : Int) {b : Nat} {v : Value} {w : World} (hc : w.cell? ⟨b,0,none⟩ = some v) (hf : w.frozen? ⟨b,0,none⟩ = false) :
    CallsD Try.prog 53 #[.pointer (some ⟨b,0,none⟩)] (.panicking [{ v := .iface 106 (.agg #[.int .i64 x]),recovered := false }]) w fun e u' w' =>
      e = .returned (.tuple #[]) ∧ u' = .panicking [{ v := .iface 106 (.agg #[.int .i64 x]),recovered := true }] ∧ w' = (w.alloc (.cells #[.int .i64 x] 106)).setCell ⟨b,0,none⟩ (.int .i64 x) := by
  refine callsD_of_wpS Try.func53 rfl fun c₀ cs hu => ?_
  apply wpS_region
  simp [wpOpsS,go_sem,recoverD,hu,Try.ntmps53]
  refine (caught_misfit x hc hf).mono ?_
  rintro e w' ⟨rfl,rfl⟩
  simp [bodyPostS,results,Try.results53]
theorem cf53 (args : Array Value) (w : World) : (callFunc 53 args).run Try.prog w = .ok (.enter 53 args) w := by simp [callFunc,Try.func53,Try.f53,go_sem]
theorem recov57_ok (pe : Value) (w : World) : CallsD Try.prog 57 #[pe] .returning w fun e u' w' => e = .returned (.tuple #[]) ∧ u' = .returning ∧ w = w' := by
  refine callsD_of_wpS Try.func57 rfl fun c₀ cs hu => ?_
  apply wpS_region
  simp [wpOpsS,go_sem,recoverD,hu,Try.ntmps57]
  refine (caught_nil pe w).mono ?_
  rintro e w' ⟨rfl,rfl⟩
  simp [bodyPostS,results,Try.results57]
  rw [← hu]
theorem recov57_no (x : Int) {b : Nat} {v : Value} {w : World} (hc : w.cell? ⟨b,0,none⟩ = some v) (hf : w.frozen? ⟨b,0,none⟩ = false) :
    CallsD Try.prog 57 #[.pointer (some ⟨b,0,none⟩)] (.panicking [{ v := .iface 106 (.agg #[.int .i64 x]),recovered := false }]) w fun e u' w' =>
      e = .returned (.tuple #[]) ∧ u' = .panicking [{ v := .iface 106 (.agg #[.int .i64 x]),recovered := true }] ∧ w' = (w.alloc (.cells #[.int .i64 x] 106)).setCell ⟨b,0,none⟩ (.int .i64 x) := by
  refine callsD_of_wpS Try.func57 rfl fun c₀ cs hu => ?_
  apply wpS_region
  simp [wpOpsS,go_sem,recoverD,hu,Try.ntmps57]
  refine (caught_misfit x hc hf).mono ?_
  rintro e w' ⟨rfl,rfl⟩
  simp [bodyPostS,results,Try.results57]
theorem cf57 (args : Array Value) (w : World) : (callFunc 57 args).run Try.prog w = .ok (.enter 57 args) w := by simp [callFunc,Try.func57,Try.f57,go_sem]
theorem recov61_ok (pe : Value) (w : World) : CallsD Try.prog 61 #[pe] .returning w fun e u' w' => e = .returned (.tuple #[]) ∧ u' = .returning ∧ w = w' := by
  refine callsD_of_wpS Try.func61 rfl fun c₀ cs hu => ?_
  apply wpS_region
  simp [wpOpsS,go_sem,recoverD,hu,Try.ntmps61]
  refine (caught_nil pe w).mono ?_
  rintro e w' ⟨rfl,rfl⟩
  simp [bodyPostS,results,Try.results61]
  rw [← hu]
theorem recov61_no (x : Int) {b : Nat} {v : Value} {w : World} (hc : w.cell? ⟨b,0,none⟩ = some v) (hf : w.frozen? ⟨b,0,none⟩ = false) :
    CallsD Try.prog 61 #[.pointer (some ⟨b,0,none⟩)] (.panicking [{ v := .iface 106 (.agg #[.int .i64 x]),recovered := false }]) w fun e u' w' =>
      e = .returned (.tuple #[]) ∧ u' = .panicking [{ v := .iface 106 (.agg #[.int .i64 x]),recovered := true }] ∧ w' = (w.alloc (.cells #[.int .i64 x] 106)).setCell ⟨b,0,none⟩ (.int .i64 x) := by
  refine callsD_of_wpS Try.func61 rfl fun c₀ cs hu => ?_
  apply wpS_region
  simp [wpOpsS,go_sem,recoverD,hu,Try.ntmps61]
  refine (caught_misfit x hc hf).mono ?_
  rintro e w' ⟨rfl,rfl⟩
  simp [bodyPostS,results,Try.results61]
theorem cf61 (args : Array Value) (w : World) : (callFunc 61 args).run Try.prog w = .ok (.enter 61 args) w := by simp [callFunc,Try.func61,Try.f61,go_sem]
theorem recov65_ok (pe : Value) (w : World) : CallsD Try.prog 65 #[pe] .returning w fun e u' w' => e = .returned (.tuple #[]) ∧ u' = .returning ∧ w = w' := by
  refine callsD_of_wpS Try.func65 rfl fun c₀ cs hu => ?_
  apply wpS_region
  simp [wpOpsS,go_sem,recoverD,hu,Try.ntmps65]
  refine (caught_nil pe w).mono ?_
  rintro e w' ⟨rfl,rfl⟩
  simp [bodyPostS,results,Try.results65]
  rw [← hu]
theorem recov65_no (x : Int) {b : Nat} {v : Value} {w : World} (hc : w.cell? ⟨b,0,none⟩ = some v) (hf : w.frozen? ⟨b,0,none⟩ = false) :
    CallsD Try.prog 65 #[.pointer (some ⟨b,0,none⟩)] (.panicking [{ v := .iface 106 (.agg #[.int .i64 x]),recovered := false }]) w fun e u' w' =>
      e = .returned (.tuple #[]) ∧ u' = .panicking [{ v := .iface 106 (.agg #[.int .i64 x]),recovered := true }] ∧ w' = (w.alloc (.cells #[.int .i64 x] 106)).setCell ⟨b,0,none⟩ (.int .i64 x) := by
  refine callsD_of_wpS Try.func65 rfl fun c₀ cs hu => ?_
  apply wpS_region
  simp [wpOpsS,go_sem,recoverD,hu,Try.ntmps65]
  refine (caught_misfit x hc hf).mono ?_
  rintro e w' ⟨rfl,rfl⟩
  simp [bodyPostS,results,Try.results65]
theorem cf65 (args : Array Value) (w : World) : (callFunc 65 args).run Try.prog w = .ok (.enter 65 args) w := by simp [callFunc,Try.func65,Try.f65,go_sem]
theorem recov69_ok (pe : Value) (w : World) : CallsD Try.prog 69 #[pe] .returning w fun e u' w' => e = .returned (.tuple #[]) ∧ u' = .returning ∧ w = w' := by
  refine callsD_of_wpS Try.func69 rfl fun c₀ cs hu => ?_
  apply wpS_region
  simp [wpOpsS,go_sem,recoverD,hu,Try.ntmps69]
  refine (caught_nil pe w).mono ?_
  rintro e w' ⟨rfl,rfl⟩
  simp [bodyPostS,results,Try.results69]
  rw [← hu]
theorem recov69_no (x : Int) {b : Nat} {v : Value} {w : World} (hc : w.cell? ⟨b,0,none⟩ = some v) (hf : w.frozen? ⟨b,0,none⟩ = false) :
    CallsD Try.prog 69 #[.pointer (some ⟨b,0,none⟩)] (.panicking [{ v := .iface 106 (.agg #[.int .i64 x]),recovered := false }]) w fun e u' w' =>
      e = .returned (.tuple #[]) ∧ u' = .panicking [{ v := .iface 106 (.agg #[.int .i64 x]),recovered := true }] ∧ w' = (w.alloc (.cells #[.int .i64 x] 106)).setCell ⟨b,0,none⟩ (.int .i64 x) := by
  refine callsD_of_wpS Try.func69 rfl fun c₀ cs hu => ?_
  apply wpS_region
  simp [wpOpsS,go_sem,recoverD,hu,Try.ntmps69]
  refine (caught_misfit x hc hf).mono ?_
  rintro e w' ⟨rfl,rfl⟩
  simp [bodyPostS,results,Try.results69]
theorem cf69 (args : Array Value) (w : World) : (callFunc 69 args).run Try.prog w = .ok (.enter 69 args) w := by simp [callFunc,Try.func69,Try.f69,go_sem]
theorem recov71_ok (pe : Value) (w : World) : CallsD Try.prog 71 #[pe] .returning w fun e u' w' => e = .returned (.tuple #[]) ∧ u' = .returning ∧ w = w' := by
  refine callsD_of_wpS Try.func71 rfl fun c₀ cs hu => ?_
  apply wpS_region
  simp [wpOpsS,go_sem,recoverD,hu,Try.ntmps71]
  refine (caught_nil pe w).mono ?_
  rintro e w' ⟨rfl,rfl⟩
  simp [bodyPostS,results,Try.results71]
  rw [← hu]
theorem recov71_no (x : Int) {b : Nat} {v : Value} {w : World} (hc : w.cell? ⟨b,0,none⟩ = some v) (hf : w.frozen? ⟨b,0,none⟩ = false) :
    CallsD Try.prog 71 #[.pointer (some ⟨b,0,none⟩)] (.panicking [{ v := .iface 106 (.agg #[.int .i64 x]),recovered := false }]) w fun e u' w' =>
      e = .returned (.tuple #[]) ∧ u' = .panicking [{ v := .iface 106 (.agg #[.int .i64 x]),recovered := true }] ∧ w' = (w.alloc (.cells #[.int .i64 x] 106)).setCell ⟨b,0,none⟩ (.int .i64 x) := by
  refine callsD_of_wpS Try.func71 rfl fun c₀ cs hu => ?_
  apply wpS_region
  simp [wpOpsS,go_sem,recoverD,hu,Try.ntmps71]
  refine (caught_misfit x hc hf).mono ?_
  rintro e w' ⟨rfl,rfl⟩
  simp [bodyPostS,results,Try.results71]
theorem cf71 (args : Array Value) (w : World) : (callFunc 71 args).run Try.prog w = .ok (.enter 71 args) w := by simp [callFunc,Try.func71,Try.f71,go_sem]
theorem recov73_ok (pe : Value) (w : World) : CallsD Try.prog 73 #[pe] .returning w fun e u' w' => e = .returned (.tuple #[]) ∧ u' = .returning ∧ w = w' := by
  refine callsD_of_wpS Try.func73 rfl fun c₀ cs hu => ?_
  apply wpS_region
  simp [wpOpsS,go_sem,recoverD,hu,Try.ntmps73]
  refine (caught_nil pe w).mono ?_
  rintro e w' ⟨rfl,rfl⟩
  simp [bodyPostS,results,Try.results73]
  rw [← hu]
theorem recov73_no (x : Int) {b : Nat} {v : Value} {w : World} (hc : w.cell? ⟨b,0,none⟩ = some v) (hf : w.frozen? ⟨b,0,none⟩ = false) :
    CallsD Try.prog 73 #[.pointer (some ⟨b,0,none⟩)] (.panicking [{ v := .iface 106 (.agg #[.int .i64 x]),recovered := false }]) w fun e u' w' =>
      e = .returned (.tuple #[]) ∧ u' = .panicking [{ v := .iface 106 (.agg #[.int .i64 x]),recovered := true }] ∧ w' = (w.alloc (.cells #[.int .i64 x] 106)).setCell ⟨b,0,none⟩ (.int .i64 x) := by
  refine callsD_of_wpS Try.func73 rfl fun c₀ cs hu => ?_
  apply wpS_region
  simp [wpOpsS,go_sem,recoverD,hu,Try.ntmps73]
  refine (caught_misfit x hc hf).mono ?_
  rintro e w' ⟨rfl,rfl⟩
  simp [bodyPostS,results,Try.results73]
theorem cf73 (args : Array Value) (w : World) : (callFunc 73 args).run Try.prog w = .ok (.enter 73 args) w := by simp [callFunc,Try.func73,Try.f73,go_sem]
end Go.Proofs.Ytphefhpmbahagaa
