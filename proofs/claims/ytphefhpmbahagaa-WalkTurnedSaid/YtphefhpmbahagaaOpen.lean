/- The row's last step where the call leaves a world of which only what lay there before is known. Tours and orders that are handed in, opened. -/
import Derived.Below
import Derived.ChangeSame
import Derived.ProofKit
import Derived.Test.YtphefhpmbahagaaProg
import Derived.Test.YtphefhpmbahagaaT1
import Derived.Deep.Slices
import Derived.Deep.Fields
import Derived.Lib.SmallJoins
import Derived.Carry
import Derived.OpenShut
namespace Go.Proofs.Ytphefhpmbahagaa
open Go.RowKit Go.WideShapes Go.ChangeShapes
section
variable {H : Type} {enc : TypeId × Value → H} {P : Program}
theorem post_of_below {f : Func} {s : ChangeSpec} {apart fresh handsOn again : Bool} {W W' : World} {args : Array Value} {v : Value} {ds gs : List (DataW H)} {before pa pv : List MemPlace}
    (hW : DataW.Whole enc P f.params.toList s.vars apart W args.toList ds gs before)
    (hres : ∀ (b : Nat) (sp : Nat → Bool) (hd : Bool),DataW.TrodAll enc P W' b sp hd f.resultTypes.toList (v.resultList f.resultTypes.size) (s.fn H (ds ++ gs)).results [])
    (hargs : ∀ sp : Nat → Bool,(∀ p ∈ before,sp p.block = true) → DataW.TrodAll enc P W' 0 sp true f.params.toList args.toList (s.fn H (ds ++ gs)).args pa)
    (hvars : ∀ sp : Nat → Bool,(∀ p ∈ before,sp p.block = true) → DataW.TrodVars enc P W' sp s.vars (s.fn H (ds ++ gs)).vars pv)
    (hps : before = pa ++ pv) (hb : Below W.heap.size W W')
    (hok : ∀ (j : Nat) (t : TypeId) (r : Value),f.resultTypes[j]? = some t → (v.resultList f.resultTypes.size)[j]? = some r → Value.okWide P W' .any 0 t r) :
    s.post enc P f apart fresh handsOn again W args v W' := by
  have hlt : ∀ p ∈ before,p.block < W.heap.size := fun p hp => hW.lt p hp
  have hold : ∀ p ∈ before,(fun b => decide (b < W.heap.size)) p.block = true := fun p hp => by simpa using hlt p hp
  refine ⟨ds,gs,before,[],pa,pv,hW,hres _ _ _,hargs _ hold,hvars _ hold,World.keptBut_mono (fun p hp => ⟨hp,?_⟩) (hb.frame (· ∈ before)),fun _ => ?_⟩
  · rw [hps,List.mem_append] at hp
    exact Or.inr hp
  · obtain ⟨_,_,_,_,_,hz,hn⟩ := hW
    refine ⟨hok,_,_,([] ++ pa) ++ pv,⟨[] ++ pa,pv,trodAll_append (hargs _ (fun _ _ => rfl)) (hres _ _ _),hvars _ (fun _ _ => rfl),rfl,?_,?_⟩,?_⟩
    · intro b off hp
      have hin : MemPlace.cell b off ∈ before := by rw [hps]; simpa using hp
      rw [hb.frozen (hlt _ hin)]
      exact hz b off hin
    · intro ha
      have := hn ha
      rw [hps] at this
      simpa using this
    · intro p hp _
      rw [hps]
      simpa using hp
end
end Go.Proofs.Ytphefhpmbahagaa

namespace Go.Proofs.Ytphefhpmbahagaa
open Go.ChangeShapes Go.WideShapes Go.ChangeAt Go.Deep Go.RowKit Go.Joins

theorem Try.laidOut : laidOutB Try.prog = true := by kernel_rfl
theorem Try.cells25 : Try.prog.cellsOf 25 = 5 := by kernel_rfl
theorem Try.cells33 : Try.prog.cellsOf 33 = 2 := by kernel_rfl
theorem Try.cells3 : Try.prog.cellsOf 3 = 1 := by kernel_rfl
theorem Try.cells22 : Try.prog.cellsOf 22 = 1 := by kernel_rfl
theorem Try.cells23 : Try.prog.cellsOf 23 = 1 := by kernel_rfl

theorem add_at (b o i : Nat) : (⟨b,o,none⟩ : Addr).add i = ⟨b,o + i,none⟩ := by
  unfold Addr.add
  split
  · rename_i h; subst h; rfl
  · rfl
theorem spotless {w : World} {a : Addr} {v : Value} (h : w.cell? a = some v) : a = ⟨a.block,a.off,none⟩ := by
  obtain ⟨b,o,s⟩ := a
  cases s with
  | none => rfl
  | some s =>
    exfalso
    simp only [World.cell?] at h
    split at h <;> simp at h
theorem add_zero' (a : Addr) : a.add 0 = a := rfl
section
variable {H : Type} {enc : TypeId × Value → H} {w : World} {base : Nat} {spare : Nat → Bool} {held : Bool}
set_option maxRecDepth 100000 in
theorem trod_c1 {t : TypeId} {fuel : Nat} {cs : List Value} {x : DataW H × List MemPlace} (ht : Try.prog.underlying t = some (.int .i64)) (h : DataW.trod enc Try.prog w base spare held fuel t cs = some x) :
    ∃ n,cs = [.int .i64 n] := by
  obtain ⟨n,h1,_,h3⟩ := DataW.trod_int ht h
  exact ⟨n,h1⟩
set_option maxRecDepth 100000 in
theorem trod_span {fuel : Nat} {cs : List Value} {x : DataW H × List MemPlace} (h : DataW.trod enc Try.prog w base spare held fuel 33 cs = some x) :
    ∃ a b : Int,cs = [.int .i64 a,.int .i64 b] := by
  obtain ⟨xs,n,_,_,hl,hx,hf⟩ := DataW.trod_struct Try.underlying33 h
  rw [Try.cells33] at hl
  have hx : xs.length = 2 := hx
  match cs,hl,xs,hx with
  | [c0,c1],_,[x0,x1],_ =>
    have e := Try.cells3
    have f0 : DataW.trod enc Try.prog w base spare held n 3 (([c0,c1].drop 0).take (Try.prog.cellsOf 3)) = some x0 := hf 0 _ rfl
    have f1 : DataW.trod enc Try.prog w base spare held n 3 (([c0,c1].drop 1).take (Try.prog.cellsOf 3)) = some x1 := hf 1 _ rfl
    rw [e] at f0 f1
    obtain ⟨n0,h0⟩ := trod_c1 Try.underlying3 f0
    obtain ⟨n1,h1⟩ := trod_c1 Try.underlying3 f1
    simp at h0 h1
    exact ⟨n0,n1,by rw [h0,h1]⟩
set_option maxRecDepth 100000 in
theorem open_spns {t : TypeId} {fuel : Nat} {v : Value} {x : DataW H × List MemPlace} (ht : Try.prog.underlying t = some (.slice 33)) (h : DataW.trod enc Try.prog w base spare held fuel t [v] = some x) :
    ∃ (a : Option Addr) (l : List Spn) (cap : Nat),v = .slice a l.length cap ∧ l.length ≤ maxLen ∧ IsSpns w a l := by
  rcases open_slice ht h with ⟨h1,_⟩ | ⟨a,len,cap,m,n,D,Pl,h1,_,hl,hm,hmm,_,hi⟩
  · simp only [List.cons.injEq,and_true] at h1
    exact ⟨none,[],0,h1,by simp [maxLen],fun i hi => by simp at hi⟩
  · simp only [List.cons.injEq,and_true] at h1
    have hle : len ≤ m := by rw [hmm]; split <;> omega
    have hs : 0 < len → a = ⟨a.block,a.off,none⟩ := fun h => by
      obtain ⟨cs,hc,hd⟩ := hi 0 (by omega)
      obtain ⟨k0,k1,rfl⟩ := trod_span hd
      obtain ⟨_,hcl,hat⟩ := World.cells?_some hc
      have h0 := hat 0 (by rw [Try.cells33]; decide)
      rw [Nat.zero_mul,add_zero',add_zero'] at h0
      exact spotless h0
    have each : ∀ i,∃ l : Spn,i < len → a = ⟨a.block,a.off,none⟩ ∧ w.cell? ⟨a.block,a.off + i * 2,none⟩ = some (.int .i64 l.lo) ∧ w.cell? ⟨a.block,a.off + i * 2 + 1,none⟩ = some (.int .i64 l.hi) := by
      intro i
      by_cases hil : i < len
      · have hs := hs (by omega)
        obtain ⟨cs,hc,hd⟩ := hi i (by omega)
        rw [Try.cells33] at hc
        obtain ⟨_,hcl,hat⟩ := World.cells?_some hc
        obtain ⟨k0,k1,rfl⟩ := trod_span hd
        have h0 := hat 0 (by decide)
        have h1 := hat 1 (by decide)
        rw [hs,add_at,add_at] at h0 h1
        exact ⟨⟨k0,k1⟩,fun _ => ⟨hs,h0,h1⟩⟩
      · exact ⟨⟨0,0⟩,fun h => absurd h hil⟩
    obtain ⟨f,hf⟩ := Classical.axiomOfChoice each
    refine ⟨some a,(List.range len).map f,cap,by rw [h1]; simp,by simp; omega,fun i hi => ?_⟩
    have hi' : i < len := by simpa using hi
    obtain ⟨hs,h0⟩ := hf i hi'
    refine ⟨a.block,a.off,by rw [← hs],?_⟩
    have : gs ((List.range len).map f) i = f i := by simp [gs,hi']
    rw [this]
    exact h0
set_option maxRecDepth 100000 in
theorem open_ways {t : TypeId} {fuel : Nat} {v : Value} {x : DataW H × List MemPlace} (ht : Try.prog.underlying t = some (.slice 22)) (h : DataW.trod enc Try.prog w base spare held fuel t [v] = some x) :
    ∃ (a : Option Addr) (l : List (List Spn)) (cap : Nat),v = .slice a l.length cap ∧ l.length ≤ maxLen ∧ IsWays w a l := by
  rcases open_slice ht h with ⟨h1,_⟩ | ⟨a,len,cap,m,n,D,Pl,h1,_,hl,hm,hmm,_,hi⟩
  · simp only [List.cons.injEq,and_true] at h1
    exact ⟨none,[],0,h1,by simp [maxLen],fun i hi => by simp at hi⟩
  · simp only [List.cons.injEq,and_true] at h1
    have hle : len ≤ m := by rw [hmm]; split <;> omega
    have one : ∀ i,i < len → ∃ (c : Value) (y : DataW H × List MemPlace),w.cell? (a.add i) = some c ∧ DataW.trod enc Try.prog w base spare held n 22 [c] = some y := fun i hil => by
      obtain ⟨cs,hc,hd⟩ := hi i (by omega)
      rw [Try.cells22] at hc
      obtain ⟨_,hcl,hat⟩ := World.cells?_some hc
      match cs,hcl with
      | [c],_ =>
        have h0 := hat 0 (by decide)
        rw [Nat.mul_one,add_zero'] at h0
        exact ⟨c,_,h0,hd⟩
    have hs : 0 < len → a = ⟨a.block,a.off,none⟩ := fun h => by
      obtain ⟨c,y,h0,_⟩ := one 0 h
      rw [add_zero'] at h0
      exact spotless h0
    have each : ∀ i,∃ q : Option Addr × List Spn × Nat,i < len → a = ⟨a.block,a.off,none⟩ ∧ w.cell? ⟨a.block,a.off + i,none⟩ = some (.slice q.1 q.2.1.length q.2.2) ∧ IsSpns w q.1 q.2.1 := by
      intro i
      by_cases hil : i < len
      · have hs := hs (by omega)
        obtain ⟨c,y,h0,hd⟩ := one i hil
        obtain ⟨ai,li,ci,rfl,_,hsp⟩ := open_spns Try.underlying22 hd
        rw [hs,add_at] at h0
        exact ⟨(ai,li,ci),fun _ => ⟨hs,h0,hsp⟩⟩
      · exact ⟨(none,[],0),fun h => absurd h hil⟩
    obtain ⟨f,hf⟩ := Classical.axiomOfChoice each
    refine ⟨some a,(List.range len).map (fun i => (f i).2.1),cap,by rw [h1]; simp,by simp; omega,fun i hi => ?_⟩
    have hi' : i < len := by simpa using hi
    obtain ⟨hs,h0,h2⟩ := hf i hi'
    refine ⟨a.block,a.off,by rw [← hs],(f i).1,(f i).2.2,?_⟩
    have : gw ((List.range len).map (fun i => (f i).2.1)) i = (f i).2.1 := by simp [gw,hi']
    rw [this]
    exact ⟨h0,h2⟩
set_option maxRecDepth 100000 in
theorem open_order {v : Value} {d : DataW H} {p : List MemPlace} {b0 : Nat} (hv : Value.okWide Try.prog w .any b0 26 v) (h : DataW.Trod enc Try.prog w 0 (fun _ => true) true 26 v d p) :
    ∃ (a : Option Addr) (l : List Int) (c : Nat),v = .slice a l.length c ∧ l.length ≤ maxLen ∧ IsInts w a l := by
  obtain ⟨a0,l0,c0,rfl⟩ := okWide_slice Try.underlying26 hv
  obtain ⟨n0,h0⟩ := h
  have h0' : DataW.trod enc Try.prog w 0 (fun _ => true) true n0 26 [.slice a0 l0 c0] = some (d,p) := h0
  rcases open_ints Try.underlying26 Try.underlying3 (by kernel_rfl) h0' with ⟨h1,_⟩ | ⟨a,len,cap,zs,h1,_,hl,hm,hz,_,hc,hwf⟩
  · obtain ⟨rfl,rfl,rfl⟩ : a0 = none ∧ l0 = 0 ∧ c0 = 0 := by simpa using h1
    exact ⟨none,[],0,rfl,by simp [maxLen],fun i hi => by simp at hi⟩
  · obtain ⟨rfl,rfl,rfl⟩ : a0 = some a ∧ len = l0 ∧ cap = c0 := by
      have : a0 = some a ∧ l0 = len ∧ c0 = cap := by simpa using h1
      exact ⟨this.1,this.2.1.symm,this.2.2.symm⟩
    have hle : len ≤ zs.length := by rw [hz]; split <;> omega
    have hlen : (zs.take len).length = len := by simp; omega
    refine ⟨some a,zs.take len,cap,by rw [hlen],by omega,fun i hi => ?_⟩
    rw [hlen] at hi
    have hs := spotless (hc 0 (by omega))
    rw [add_zero'] at hs
    refine ⟨a.block,a.off,by rw [← hs],?_⟩
    have hci := hc i (by omega)
    rw [hs,add_at] at hci
    have hil : i < zs.length := by omega
    rw [hci]
    simp [gi,hil,hi]
set_option maxRecDepth 100000 in
theorem open_tr {b0 : Nat} {v : Value} {d : DataW H} {p : List MemPlace} (hv : Value.okWide Try.prog w .any b0 25 v) (h : DataW.Trod enc Try.prog w base spare held 25 v d p) :
    ∃ (t : Tr) (A : TrA),v = t.v A ∧ IsTr w t A ∧ t.ways.length ≤ 9223372036854775807 := by
  obtain ⟨cs,rfl,hsz⟩ := okWide_struct Try.underlying25 hv
  rw [Try.cells25] at hsz
  obtain ⟨fuel,hf⟩ := h
  obtain ⟨xs,n,_,_,hl,hx,hf⟩ := DataW.trod_struct Try.underlying25 hf
  have hx : xs.length = 5 := hx
  obtain ⟨l⟩ := cs
  have hsz : l.length = 5 := hsz
  match l,hsz,xs,hx with
  | [c0,c1,c2,c3,c4],_,[x0,x1,x2,x3,x4],_ =>
    have e := Try.cells22
    have e2 := Try.cells23
    have e3 := Try.cells3
    have f0 : DataW.trod enc Try.prog w base spare held n 3 (([c0,c1,c2,c3,c4].drop 0).take (Try.prog.cellsOf 3)) = some x0 := hf 0 _ rfl
    have f1 : DataW.trod enc Try.prog w base spare held n 22 (([c0,c1,c2,c3,c4].drop 1).take (Try.prog.cellsOf 22)) = some x1 := hf 1 _ rfl
    have f2 : DataW.trod enc Try.prog w base spare held n 23 (([c0,c1,c2,c3,c4].drop 2).take (Try.prog.cellsOf 23)) = some x2 := hf 2 _ rfl
    have f3 : DataW.trod enc Try.prog w base spare held n 22 (([c0,c1,c2,c3,c4].drop 3).take (Try.prog.cellsOf 22)) = some x3 := hf 3 _ rfl
    have f4 : DataW.trod enc Try.prog w base spare held n 22 (([c0,c1,c2,c3,c4].drop 4).take (Try.prog.cellsOf 22)) = some x4 := hf 4 _ rfl
    rw [e3] at f0
    rw [e] at f1 f3 f4
    rw [e2] at f2
    obtain ⟨dn,h0⟩ := trod_c1 Try.underlying3 f0
    obtain ⟨af,lf,cf,h1,_,hp1⟩ := open_spns Try.underlying22 f1
    obtain ⟨aw,lw,cw,h2,hw2,hp2⟩ := open_ways Try.underlying23 f2
    obtain ⟨a3,l3,k3,h3,_,hp3⟩ := open_spns Try.underlying22 f3
    obtain ⟨a4,l4,k4,h4,_,hp4⟩ := open_spns Try.underlying22 f4
    simp at h0
    subst h0 h1 h2 h3 h4
    exact ⟨⟨dn,lf,lw,l3,l4⟩,⟨af,cf,aw,cw,a3,k3,a4,k4⟩,rfl,⟨hp1,hp2,hp3,hp4⟩,by unfold maxLen at hw2; exact hw2⟩
end
end Go.Proofs.Ytphefhpmbahagaa

