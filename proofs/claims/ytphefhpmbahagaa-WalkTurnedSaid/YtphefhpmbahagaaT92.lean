/- WalkTurned: the loops that put the spans of a tour at the views' numbers. -/
import Derived.Test.YtphefhpmbahagaaT91
namespace Go.Proofs.Ytphefhpmbahagaa
open Go.RowKit
set_option linter.unusedVariables false
set_option linter.unusedSimpArgs false

/-- The rows of the new tour,as far as they are put: above world p,behind world V. -/
structure Put (p V : World) (g1 g2 g3 g4 g9 n c : Nat) (t : Tr) (a b d e : Nat) (v : World) : Prop where
  below : Below p.heap.size p v
  size : V.heap.size ≤ v.heap.size
  at9 : v.heap[g9]? = V.heap[g9]?
  r1 : PutRow g1 n c a t.frm v
  r3 : PutRow g3 n c b t.stay v
  r4 : PutRow g4 n c d t.light v
  r2 : PutWays V.heap.size g2 n c e t.ways v
/-- The same,with a row of ways under way,in block h. -/
structure PutI (p V : World) (g1 g2 g3 g4 g9 n c : Nat) (t : Tr) (a k j h : Nat) (v : World) : Prop where
  below : Below p.heap.size p v
  size : V.heap.size ≤ v.heap.size
  at9 : v.heap[g9]? = V.heap[g9]?
  r1 : PutRow g1 n c a t.frm v
  r3 : PutRow g3 n c a t.stay v
  r4 : PutRow g4 n c a t.light v
  r2 : PutK V.heap.size g2 n c k j h t.ways v
structure PutG (p V : World) (g1 g2 g3 g4 g9 : Nat) : Prop where
  l1 : p.heap.size ≤ g1
  l2 : p.heap.size ≤ g2
  l3 : p.heap.size ≤ g3
  l4 : p.heap.size ≤ g4
  l9 : p.heap.size ≤ g9
  u1 : g1 < V.heap.size
  u2 : g2 < V.heap.size
  u3 : g3 < V.heap.size
  u4 : g4 < V.heap.size
  u9 : g9 < V.heap.size
  n13 : g1 ≠ g3
  n14 : g1 ≠ g4
  n34 : g3 ≠ g4
  n12 : g1 ≠ g2
  n32 : g3 ≠ g2
  n42 : g4 ≠ g2
  n91 : g9 ≠ g1
  n92 : g9 ≠ g2
  n93 : g9 ≠ g3
  n94 : g9 ≠ g4
section
variable {p V v v' : World} {g1 g2 g3 g4 g9 n c a b d e k j h : Nat} {t : Tr}
theorem Put.mono (H : Put p V g1 g2 g3 g4 g9 n c t a b d e v) (G : PutG p V g1 g2 g3 g4 g9) (hb : Below v.heap.size v v') : Put p V g1 g2 g3 g4 g9 n c t a b d e v' :=
  ⟨H.below.trans (hb.mono H.below.size),Nat.le_trans H.size hb.size,(hb.block _ (Nat.lt_of_lt_of_le G.u9 H.size)).trans H.at9,H.r1.mono hb,H.r3.mono hb,H.r4.mono hb,H.r2.mono hb⟩
theorem PutI.mono (H : PutI p V g1 g2 g3 g4 g9 n c t a k j h v) (G : PutG p V g1 g2 g3 g4 g9) (hb : Below v.heap.size v v') : PutI p V g1 g2 g3 g4 g9 n c t a k j h v' :=
  ⟨H.below.trans (hb.mono H.below.size),Nat.le_trans H.size hb.size,(hb.block _ (Nat.lt_of_lt_of_le G.u9 H.size)).trans H.at9,H.r1.mono hb,H.r3.mono hb,H.r4.mono hb,H.r2.mono hb⟩
theorem Put.set1 (H : Put p V g1 g2 g3 g4 g9 n c t a b d e v) (G : PutG p V g1 g2 g3 g4 g9) (hk : a < n) : (∃ u,v.cell? ⟨g1,sgm n c a * 2,none⟩ = some u) ∧ v.frozen? ⟨g1,sgm n c a * 2,none⟩ = false ∧ (∃ u,v.cell? ⟨g1,sgm n c a * 2 + 1,none⟩ = some u) ∧ v.frozen? ⟨g1,sgm n c a * 2 + 1,none⟩ = false ∧
    Put p V g1 g2 g3 g4 g9 n c t (a + 1) b d e ((v.setCell ⟨g1,sgm n c a * 2,none⟩ (.int .i64 (gs t.frm a).lo)).setCell ⟨g1,sgm n c a * 2 + 1,none⟩ (.int .i64 (gs t.frm a).hi)) := by
  obtain ⟨x1,x2,x3,x4,x5⟩ := H.r1.put hk
  exact ⟨x1,x2,x3,x4,(H.below.setCell (p := ⟨g1,_,none⟩) G.l1 _).setCell (p := ⟨g1,_,none⟩) G.l1 _,by simp only [World.size_setCell]; exact H.size,(Below.heap_setCell _ _ _ _ G.n91).trans ((Below.heap_setCell _ _ _ _ G.n91).trans H.at9),x5,((H.r3.other G.n13 _ _).other G.n13 _ _),((H.r4.other G.n14 _ _).other G.n14 _ _),(H.r2.other G.u1 G.n12 _ _).other G.u1 G.n12 _ _⟩
theorem Put.set3 (H : Put p V g1 g2 g3 g4 g9 n c t a b d e v) (G : PutG p V g1 g2 g3 g4 g9) (hk : b < n) : (∃ u,v.cell? ⟨g3,sgm n c b * 2,none⟩ = some u) ∧ v.frozen? ⟨g3,sgm n c b * 2,none⟩ = false ∧ (∃ u,v.cell? ⟨g3,sgm n c b * 2 + 1,none⟩ = some u) ∧ v.frozen? ⟨g3,sgm n c b * 2 + 1,none⟩ = false ∧
    Put p V g1 g2 g3 g4 g9 n c t a (b + 1) d e ((v.setCell ⟨g3,sgm n c b * 2,none⟩ (.int .i64 (gs t.stay b).lo)).setCell ⟨g3,sgm n c b * 2 + 1,none⟩ (.int .i64 (gs t.stay b).hi)) := by
  obtain ⟨x1,x2,x3,x4,x5⟩ := H.r3.put hk
  exact ⟨x1,x2,x3,x4,(H.below.setCell (p := ⟨g3,_,none⟩) G.l3 _).setCell (p := ⟨g3,_,none⟩) G.l3 _,by simp only [World.size_setCell]; exact H.size,(Below.heap_setCell _ _ _ _ G.n93).trans ((Below.heap_setCell _ _ _ _ G.n93).trans H.at9),((H.r1.other (Ne.symm G.n13) _ _).other (Ne.symm G.n13) _ _),x5,((H.r4.other G.n34 _ _).other G.n34 _ _),(H.r2.other G.u3 G.n32 _ _).other G.u3 G.n32 _ _⟩
theorem Put.set4 (H : Put p V g1 g2 g3 g4 g9 n c t a b d e v) (G : PutG p V g1 g2 g3 g4 g9) (hk : d < n) : (∃ u,v.cell? ⟨g4,sgm n c d * 2,none⟩ = some u) ∧ v.frozen? ⟨g4,sgm n c d * 2,none⟩ = false ∧ (∃ u,v.cell? ⟨g4,sgm n c d * 2 + 1,none⟩ = some u) ∧ v.frozen? ⟨g4,sgm n c d * 2 + 1,none⟩ = false ∧
    Put p V g1 g2 g3 g4 g9 n c t a b (d + 1) e ((v.setCell ⟨g4,sgm n c d * 2,none⟩ (.int .i64 (gs t.light d).lo)).setCell ⟨g4,sgm n c d * 2 + 1,none⟩ (.int .i64 (gs t.light d).hi)) := by
  obtain ⟨x1,x2,x3,x4,x5⟩ := H.r4.put hk
  exact ⟨x1,x2,x3,x4,(H.below.setCell (p := ⟨g4,_,none⟩) G.l4 _).setCell (p := ⟨g4,_,none⟩) G.l4 _,by simp only [World.size_setCell]; exact H.size,(Below.heap_setCell _ _ _ _ G.n94).trans ((Below.heap_setCell _ _ _ _ G.n94).trans H.at9),((H.r1.other (Ne.symm G.n14) _ _).other (Ne.symm G.n14) _ _),((H.r3.other (Ne.symm G.n34) _ _).other (Ne.symm G.n34) _ _),x5,(H.r2.other G.u4 G.n42 _ _).other G.u4 G.n42 _ _⟩
/-- A new row is laid,and stored. -/
theorem Put.row (H : Put p V g1 g2 g3 g4 g9 n c t a a a k v) (G : PutG p V g1 g2 g3 g4 g9) (hk : k < n) (hv : Below v.heap.size v v') (hh : v.heap.size ≤ h) (hr : PutRow h n c 0 (gw t.ways k) v') :
    (∃ u,v'.cell? ⟨g2,sgm n c k,none⟩ = some u) ∧ v'.frozen? ⟨g2,sgm n c k,none⟩ = false ∧ PutI p V g1 g2 g3 g4 g9 n c t a k 0 h (v'.setCell ⟨g2,sgm n c k,none⟩ (.slice (some ⟨h,0,none⟩) n n)) := by
  obtain ⟨x1,x2,x3⟩ := H.r2.put hv hk hh H.size hr
  have H' := H.mono G hv
  exact ⟨x1,x2,H'.below.setCell (p := ⟨g2,_,none⟩) G.l2 _,by simp only [World.size_setCell]; exact H'.size,(Below.heap_setCell _ _ _ _ G.n92).trans H'.at9,H'.r1.other (Ne.symm G.n12) _ _,H'.r3.other (Ne.symm G.n32) _ _,H'.r4.other (Ne.symm G.n42) _ _,x3⟩
theorem PutI.put (H : PutI p V g1 g2 g3 g4 g9 n c t a k j h v) (G : PutG p V g1 g2 g3 g4 g9) (hj : j < n) : (∃ u,v.cell? ⟨h,sgm n c j * 2,none⟩ = some u) ∧ v.frozen? ⟨h,sgm n c j * 2,none⟩ = false ∧ (∃ u,v.cell? ⟨h,sgm n c j * 2 + 1,none⟩ = some u) ∧ v.frozen? ⟨h,sgm n c j * 2 + 1,none⟩ = false ∧
    PutI p V g1 g2 g3 g4 g9 n c t a k (j + 1) h ((v.setCell ⟨h,sgm n c j * 2,none⟩ (.int .i64 (gs (gw t.ways k) j).lo)).setCell ⟨h,sgm n c j * 2 + 1,none⟩ (.int .i64 (gs (gw t.ways k) j).hi)) := by
  obtain ⟨x1,x2,x3,x4,x5⟩ := H.r2.put hj
  have hV := H.r2.from_
  have hn : ∀ g,g < V.heap.size → h ≠ g := fun g hg => by omega
  have hp : p.heap.size ≤ h := by have := G.l9; have := G.u9; omega
  exact ⟨x1,x2,x3,x4,(H.below.setCell (p := ⟨h,_,none⟩) hp _).setCell (p := ⟨h,_,none⟩) hp _,by simp only [World.size_setCell]; exact H.size,(Below.heap_setCell _ _ _ _ (Ne.symm (hn _ G.u9))).trans ((Below.heap_setCell _ _ _ _ (Ne.symm (hn _ G.u9))).trans H.at9),(H.r1.other (hn _ G.u1) _ _).other (hn _ G.u1) _ _,(H.r3.other (hn _ G.u3) _ _).other (hn _ G.u3) _ _,(H.r4.other (hn _ G.u4) _ _).other (hn _ G.u4) _ _,x5⟩
theorem PutI.full (H : PutI p V g1 g2 g3 g4 g9 n c t (k + 1) k n h v) : Put p V g1 g2 g3 g4 g9 n c t (k + 1) (k + 1) (k + 1) (k + 1) v := ⟨H.below,H.size,H.at9,H.r1,H.r3,H.r4,H.r2.full⟩
theorem PutI.h1 (H : PutI p V g1 g2 g3 g4 g9 n c t a k j h v) : v.cell? ⟨g2,sgm n c k,none⟩ = some (.slice (some ⟨h,0,none⟩) n n) := by
  obtain ⟨cur,h1,h2,h3,h4⟩ := H.r2.row
  rw [cell_of_heap h1]; exact h3
/-- What the new tour holds,when all is put. -/
theorem Put.tr (H : Put p V g1 g2 g3 g4 g9 t.frm.length c t t.frm.length t.frm.length t.frm.length t.frm.length v) : IsTr v (t.turned c) ⟨some ⟨g1,0,none⟩,t.frm.length,some ⟨g2,0,none⟩,t.frm.length,some ⟨g3,0,none⟩,t.frm.length,some ⟨g4,0,none⟩,t.frm.length⟩ :=
  ⟨H.r1.full.spns,H.r2.full,H.r3.full.spns,H.r4.full.spns⟩
end
end Go.Proofs.Ytphefhpmbahagaa
