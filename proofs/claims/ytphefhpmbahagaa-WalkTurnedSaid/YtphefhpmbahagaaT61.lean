/- Plain laws of orders: all orders, which plan is better, the best one, who comes before whom. -/
import Derived.Test.YtphefhpmbahagaaT37
import Derived.Test.YtphefhpmbahagaaT44
namespace Go.Proofs.Ytphefhpmbahagaa
open Go.RowKit
set_option linter.unusedVariables false
set_option linter.unusedSimpArgs false

/-- Numbers below n,each once: there are at most n; if there are n,each is among them. -/
theorem all_in : ∀ (n : Nat) (l : List Int),l.Nodup → (∀ x ∈ l,0 ≤ x ∧ x < n) → l.length ≤ n ∧ (l.length = n → ∀ j,j < n → (j : Int) ∈ l)
  | 0,l,hd,hr => by
    cases l with
    | nil => exact ⟨Nat.le_refl _,fun _ j hj => by omega⟩
    | cons x r => have := hr x (by simp); omega
  | n + 1,l,hd,hr => by
    by_cases hm : (n : Int) ∈ l
    · have hlen : (l.erase (n : Int)).length + 1 = l.length := by
        have h1 := List.length_erase_of_mem hm
        have h2 := List.length_pos_of_mem hm
        omega
      obtain ⟨h1,h2⟩ := all_in n (l.erase (n : Int)) (hd.erase _) (fun x hx => by
        have hx' := (List.Nodup.mem_erase_iff hd).1 hx
        have := hr x hx'.2
        have := hx'.1
        omega)
      refine ⟨by omega,fun e j hj => ?_⟩
      by_cases hjn : j = n
      · subst hjn; exact hm
      · exact List.mem_of_mem_erase (h2 (by omega) j (by omega))
    · obtain ⟨h1,h2⟩ := all_in n l hd (fun x hx => by
        have := hr x hx
        have : x ≠ (n : Int) := fun e => hm (e ▸ hx)
        omega)
      exact ⟨by omega,fun e => by omega⟩
def preO (n : Nat) : Nat → List Int → List (List Int)
  | 0,pre => [pre]
  | d + 1,pre => pre :: (List.range n).flatMap fun (v : Nat) => if (v : Int) ∈ pre then [] else preO n d (pre ++ [(v : Int)])
def preF (n d : Nat) (pre : List Int) (v : Nat) : List (List Int) := if (v : Int) ∈ pre then [] else preO n d (pre ++ [(v : Int)])
theorem preO_succ (n d : Nat) (pre : List Int) : preO n (d + 1) pre = pre :: (List.range n).flatMap (preF n d pre) := rfl
theorem preO_len (n : Nat) : ∀ (d : Nat) (pre : List Int),(preO n d pre).length ≤ (n + 1) ^ d
  | 0,pre => by simp [preO]
  | d + 1,pre => by
    have h := flatMap_le (preF n d pre) ((n + 1) ^ d) (List.range n) (fun x _ => by
      unfold preF
      split
      · simp
      · exact preO_len n d _)
    have hp : 0 < (n + 1) ^ d := Nat.pos_of_ne_zero (by simp)
    rw [preO_succ,List.length_cons,Nat.pow_succ,Nat.mul_succ]
    rw [List.length_range,Nat.mul_comm] at h
    omega
theorem preO_tour {n : Nat} : ∀ (d : Nat) (pre : List Int),pre.length + d = n → (preO n d pre).filter (fun x => decide (x.length = n)) = tourP n d pre
  | 0,pre,h => by simp [preO,tourP]; omega
  | d + 1,pre,h => by
    have hp : decide (pre.length = n) = false := by simp; omega
    rw [preO_succ,List.filter_cons,hp,List.filter_flatMap]
    simp only [Bool.false_eq_true,if_false]
    rw [tourP_succ]
    congr 1
    funext v
    unfold preF onF
    split
    · rfl
    · exact preO_tour d _ (by simp; omega)
theorem preO_mem {n : Nat} : ∀ (d : Nat) (pre x : List Int),x ∈ preO n d pre → (∀ v ∈ pre,0 ≤ v ∧ v < n) → pre.Nodup → (∀ v ∈ x,0 ≤ v ∧ v < n) ∧ x.Nodup
  | 0,pre,x,hx,hr,hd => by
    simp [preO] at hx
    subst hx
    exact ⟨hr,hd⟩
  | d + 1,pre,x,hx,hr,hd => by
    rw [preO_succ,List.mem_cons,List.mem_flatMap] at hx
    rcases hx with rfl | ⟨v,hv,hx⟩
    · exact ⟨hr,hd⟩
    · unfold preF at hx
      have hv : v < n := by simpa using hv
      split at hx
      · cases hx
      · rename_i hn
        refine preO_mem d _ x hx (fun y hy => ?_) ?_
        · rcases List.mem_append.1 hy with hy | hy
          · exact hr y hy
          · have : y = (v : Int) := by simpa using hy
            omega
        · rw [List.nodup_append]
          refine ⟨hd,by simp,fun a ha b hb e => ?_⟩
          have : b = (v : Int) := by simpa using hb
          subst this
          exact hn (e ▸ ha)
theorem preO_len6 {n : Nat} (h : n ≤ 6) : (preO n n []).length ≤ 117649 := by
  refine Nat.le_trans (preO_len n n []) ?_
  have : n = 0 ∨ n = 1 ∨ n = 2 ∨ n = 3 ∨ n = 4 ∨ n = 5 ∨ n = 6 := by omega
  rcases this with rfl | rfl | rfl | rfl | rfl | rfl | rfl <;> decide

theorem index_ge : ∀ (l : List Int) (v : Int) (k : Nat),v ∈ l → (k : Int) ≤ indexFrom l v k
  | [],v,k,h => by cases h
  | x :: r,v,k,h => by
    show (k : Int) ≤ if x = v then (k : Int) else indexFrom r v (k + 1)
    by_cases e : x = v
    · rw [if_pos e]; exact Int.le_refl _
    · rw [if_neg e]
      have := index_ge r v (k + 1) (by rcases List.mem_cons.1 h with h | h; exact absurd h.symm e; exact h)
      omega
theorem comes_index : ∀ (l : List Int) (a b : Int) (k : Nat),a ∈ l → b ∈ l → a ≠ b → comesB l a b = decide (indexFrom l a k < indexFrom l b k)
  | [],a,b,k,h,_,_ => by cases h
  | x :: r,a,b,k,ha,hb,hab => by
    show (if x = a then true else if x = b then false else comesB r a b) = decide ((if x = a then (k : Int) else indexFrom r a (k + 1)) < (if x = b then (k : Int) else indexFrom r b (k + 1)))
    have mem : ∀ v,v ∈ x :: r → x ≠ v → v ∈ r := fun v h e => by rcases List.mem_cons.1 h with h | h; exact absurd h.symm e; exact h
    by_cases e1 : x = a
    · have e2 : x ≠ b := fun e => hab (e1.symm.trans e)
      rw [if_pos e1,if_pos e1,if_neg e2]
      have := index_ge r b (k + 1) (mem b hb e2)
      symm
      rw [decide_eq_true_iff]
      omega
    · rw [if_neg e1,if_neg e1]
      by_cases e2 : x = b
      · rw [if_pos e2,if_pos e2]
        have := index_ge r a (k + 1) (mem a ha e1)
        symm
        rw [decide_eq_false_iff_not]
        omega
      · rw [if_neg e2,if_neg e2]
        exact comes_index r a b (k + 1) (mem a ha e1) (mem b hb e2) hab
theorem comes_bef {t : Tr} {a b : Int} (ha : t.view a = true) (hb : t.view b = true) (hab : a ≠ b) {x : List Int} (hx : x ∈ toursL t.frm.length) : befB a b x = comesB x a b := by
  have hm : ∀ v,t.view v = true → v ∈ x := fun v hv => by
    obtain ⟨h1,h2,h3⟩ := tour_mem hx
    unfold Tr.view inR Tr.n at hv
    simp at hv
    have := (all_in t.frm.length x h3 h2).2 h1 v.toNat (by omega)
    rw [show ((v.toNat : Nat) : Int) = v by omega] at this
    exact this
  unfold befB indexL
  exact (comes_index x a b 0 (hm a ha) (hm b hb) hab).symm

theorem best_len30 (t : Tr) : (shortE t).1.length ≤ 30 ∧ (mostE t).1.length ≤ 30 := by
  by_cases h : openE t true = 0
  · have hn := (fit_of_valid (openE_zero h).1).n
    have hb : (bestE t).1.length ≤ 6 := best_len6 hn 0 (-1) t.dawn
    unfold shortE mostE
    rw [if_pos h,if_pos h]
    refine ⟨?_,by simp; omega⟩
    split
    · simp; omega
    · simp
  · unfold shortE mostE
    rw [if_neg h,if_neg h]
    simp

theorem cmpI_lt (a b : Int) : cmpI a b < 0 ↔ a < b := by unfold cmpI; split <;> (try split) <;> simp <;> omega
theorem cmpI_eq (a b : Int) : cmpI a b = 0 ↔ a = b := by unfold cmpI; split <;> (try split) <;> simp <;> omega
theorem cmpL_cons (x y : Int) (r s : List Int) : cmpL (x :: r) (y :: s) = if cmpI x y = 0 then cmpL r s else cmpI x y := by rw [cmpL]
theorem cmpL_lt_cons (x y : Int) (r s : List Int) : cmpL (x :: r) (y :: s) < 0 ↔ x < y ∨ (x = y ∧ cmpL r s < 0) := by
  rw [cmpL_cons]
  have h1 := cmpI_lt x y
  have h2 := cmpI_eq x y
  by_cases e : cmpI x y = 0
  · rw [if_pos e]
    have := h2.1 e
    constructor
    · exact fun h => .inr ⟨this,h⟩
    · rintro (h | h)
      · omega
      · exact h.2
  · rw [if_neg e]
    constructor
    · exact fun h => .inl (h1.1 h)
    · rintro (h | h)
      · exact h1.2 h
      · exact absurd (h2.2 h.1) e
theorem cmpL_refl : ∀ l : List Int,cmpL l l = 0
  | [] => by simp [cmpL]
  | x :: r => by rw [cmpL_cons,if_pos ((cmpI_eq x x).2 rfl)]; exact cmpL_refl r
theorem cmpL_eq : ∀ l m : List Int,cmpL l m = 0 → l = m
  | [],[],_ => rfl
  | [],_ :: _,h => by simp [cmpL] at h
  | _ :: _,[],h => by simp [cmpL] at h
  | x :: r,y :: s,h => by
    rw [cmpL_cons] at h
    by_cases e : cmpI x y = 0
    · rw [if_pos e] at h
      rw [(cmpI_eq x y).1 e,cmpL_eq r s h]
    · rw [if_neg e] at h
      exact absurd h e
theorem cmpL_trans : ∀ l m k : List Int,cmpL l m < 0 → cmpL m k < 0 → cmpL l k < 0
  | [],[],_,h,_ => by simp [cmpL] at h
  | [],_ :: _,[],_,h => by simp [cmpL] at h
  | [],_ :: _,_ :: _,_,_ => by simp [cmpL]
  | _ :: _,[],_,h,_ => by simp [cmpL] at h
  | _ :: _,_ :: _,[],_,h => by simp [cmpL] at h
  | x :: r,y :: s,z :: t,h1,h2 => by
    rw [cmpL_lt_cons] at h1 h2 ⊢
    rcases h1 with h1 | ⟨h1,h1'⟩ <;> rcases h2 with h2 | ⟨h2,h2'⟩
    · exact .inl (by omega)
    · exact .inl (by omega)
    · exact .inl (by omega)
    · exact .inr ⟨h1.trans h2,cmpL_trans r s t h1' h2'⟩
theorem cmpL_total : ∀ l m : List Int,cmpL l m < 0 ∨ l = m ∨ cmpL m l < 0
  | [],[] => .inr (.inl rfl)
  | [],_ :: _ => .inl (by simp [cmpL])
  | _ :: _,[] => .inr (.inr (by simp [cmpL]))
  | x :: r,y :: s => by
    rw [cmpL_lt_cons,cmpL_lt_cons]
    rcases cmpL_total r s with h | h | h
    · by_cases e : x = y
      · exact .inl (.inr ⟨e,h⟩)
      · by_cases e2 : x < y
        · exact .inl (.inl e2)
        · exact .inr (.inr (.inl (by omega)))
    · by_cases e : x = y
      · exact .inr (.inl (by rw [e,h]))
      · by_cases e2 : x < y
        · exact .inl (.inl e2)
        · exact .inr (.inr (.inl (by omega)))
    · by_cases e : x = y
      · exact .inr (.inr (.inr ⟨e.symm,h⟩))
      · by_cases e2 : x < y
        · exact .inl (.inl e2)
        · exact .inr (.inr (.inl (by omega)))
/-- What it is for a plan to be better. -/
theorem betE_lt (x y : List Int × Int) : betE x y < 0 ↔ y.1.length < x.1.length ∨ (x.1.length = y.1.length ∧ (x.2 < y.2 ∨ (x.2 = y.2 ∧ cmpL x.1 y.1 < 0))) := by
  unfold betE
  have h1 := cmpI_lt (-(x.1.length : Int)) (-(y.1.length : Int))
  have h2 := cmpI_eq (-(x.1.length : Int)) (-(y.1.length : Int))
  have h3 := cmpI_lt x.2 y.2
  have h4 := cmpI_eq x.2 y.2
  by_cases e : cmpI (-(x.1.length : Int)) (-(y.1.length : Int)) = 0
  · have e' := h2.1 e
    rw [if_pos e]
    by_cases e2 : cmpI x.2 y.2 = 0
    · have e2' := h4.1 e2
      rw [if_pos e2]
      constructor
      · exact fun h => .inr ⟨by omega,.inr ⟨e2',h⟩⟩
      · rintro (h | ⟨_,h | h⟩)
        · omega
        · omega
        · exact h.2
    · rw [if_neg e2]
      constructor
      · exact fun h => .inr ⟨by omega,.inl (h3.1 h)⟩
      · rintro (h | ⟨_,h | h⟩)
        · omega
        · exact h3.2 h
        · exact absurd (h4.2 h.1) e2
  · rw [if_neg e]
    constructor
    · exact fun h => .inl (by have := h1.1 h; omega)
    · rintro (h | ⟨h,_⟩)
      · exact h1.2 (by omega)
      · exact absurd (h2.2 (by omega)) e
theorem betE_trans {x y z : List Int × Int} (h1 : betE x y < 0) (h2 : betE y z < 0) : betE x z < 0 := by
  rw [betE_lt] at h1 h2 ⊢
  rcases h1 with h1 | ⟨a1,h1 | ⟨b1,h1⟩⟩ <;> rcases h2 with h2 | ⟨a2,h2 | ⟨b2,h2⟩⟩
  · exact .inl (by omega)
  · exact .inl (by omega)
  · exact .inl (by omega)
  · exact .inl (by omega)
  · exact .inr ⟨by omega,.inl (by omega)⟩
  · exact .inr ⟨by omega,.inl (by omega)⟩
  · exact .inl (by omega)
  · exact .inr ⟨by omega,.inl (by omega)⟩
  · exact .inr ⟨by omega,.inr ⟨by omega,cmpL_trans _ _ _ h1 h2⟩⟩
theorem betE_irr (x : List Int × Int) : ¬ betE x x < 0 := by
  rw [betE_lt]
  rintro (h | ⟨_,h | ⟨_,h⟩⟩)
  · omega
  · omega
  · rw [cmpL_refl] at h; omega
theorem betE_total (x y : List Int × Int) : betE x y < 0 ∨ x = y ∨ betE y x < 0 := by
  rw [betE_lt,betE_lt]
  by_cases a : x.1.length = y.1.length
  · by_cases b : x.2 = y.2
    · rcases cmpL_total x.1 y.1 with h | h | h
      · exact .inl (.inr ⟨a,.inr ⟨b,h⟩⟩)
      · exact .inr (.inl (Prod.ext h b))
      · exact .inr (.inr (.inr ⟨a.symm,.inr ⟨b.symm,h⟩⟩))
    · by_cases b2 : x.2 < y.2
      · exact .inl (.inr ⟨a,.inl b2⟩)
      · exact .inr (.inr (.inr ⟨a.symm,.inl (by omega)⟩))
  · by_cases a2 : y.1.length < x.1.length
    · exact .inl (.inl a2)
    · exact .inr (.inr (.inl (by omega)))
/-- The least of a list: it is in it (or the first one),and none is better. -/
theorem leastE_mem : ∀ (l : List (List Int × Int)) (f : List Int × Int),leastE f l = f ∨ leastE f l ∈ l
  | [],f => .inl rfl
  | y :: l,f => by
    have h1 : leastE f (y :: l) = leastE (if betE y f < 0 then y else f) l := rfl
    rw [h1]
    rcases leastE_mem l (if betE y f < 0 then y else f) with h | h
    · rw [h]
      split
      · exact .inr (by simp)
      · exact .inl rfl
    · exact .inr (List.mem_cons_of_mem _ h)
theorem leastE_low : ∀ (l : List (List Int × Int)) (f : List Int × Int),¬ betE f (leastE f l) < 0 ∧ ∀ x ∈ l,¬ betE x (leastE f l) < 0
  | [],f => ⟨betE_irr f,fun x hx => by cases hx⟩
  | y :: l,f => by
    have h1 : leastE f (y :: l) = leastE (if betE y f < 0 then y else f) l := rfl
    rw [h1]
    obtain ⟨h2,h3⟩ := leastE_low l (if betE y f < 0 then y else f)
    by_cases e : betE y f < 0
    · rw [if_pos e] at h2 h3 ⊢
      refine ⟨fun h => h2 (betE_trans e h),fun x hx => ?_⟩
      rcases List.mem_cons.1 hx with rfl | hx
      · exact h2
      · exact h3 x hx
    · rw [if_neg e] at h2 h3 ⊢
      refine ⟨h2,fun x hx => ?_⟩
      rcases List.mem_cons.1 hx with rfl | hx
      · intro h
        rcases betE_total x f with h' | h' | h'
        · exact e h'
        · exact h2 (h' ▸ h)
        · exact h2 (betE_trans h' h)
      · exact h3 x hx

/-- When one is through these views too; none: too late. -/
def Tr.sufT (t : Tr) : Int → Int → List Int → Option Int
  | _,left,[] => some left
  | f,left,v :: r => match t.thru f v.toNat left with
    | none => none
    | some q => t.sufT v q r
structure SufOk (t : Tr) (seen : Nat) (f left : Int) (x : List Int × Int) : Prop where
  nodup : x.1.Nodup
  view : ∀ v ∈ x.1,0 ≤ v ∧ v < t.frm.length ∧ seen.testBit v.toNat = false
  time : t.sufT f left x.1 = some x.2
theorem or_bit {seen v j : Nat} : (seen ||| 2 ^ v).testBit j = (seen.testBit j || decide (v = j)) := by rw [Nat.testBit_or,Nat.testBit_two_pow]
theorem cand_some {t : Tr} {seen : Nat} {f left : Int} {v : Nat} {x : List Int × Int} (h : t.candV seen f left v = some x) : seen.testBit v = false ∧ ∃ q,t.thru f v left = some q ∧ x = ((v : Int) :: (t.bestV (seen ||| 2 ^ v) v q).1,(t.bestV (seen ||| 2 ^ v) v q).2) := by
  unfold Tr.candV at h
  cases hb : seen.testBit v
  · rw [hb] at h
    simp only [Bool.false_eq_true,if_false,Option.map_eq_some_iff] at h
    obtain ⟨q,hq,rfl⟩ := h
    exact ⟨rfl,q,hq,rfl⟩
  · rw [hb] at h; simp at h
theorem best_ok (t : Tr) : ∀ (d seen : Nat) (f left : Int),t.free seen ≤ d → SufOk t seen f left (t.bestV seen f left) := by
  intro d
  induction d with
  | zero =>
    intro seen f left h
    have h0 : t.free seen = 0 := by omega
    unfold Tr.bestV
    rw [h0]
    exact ⟨by simp [Tr.bestF],by simp [Tr.bestF],by simp [Tr.bestF,Tr.sufT]⟩
  | succ d ih =>
    intro seen f left h
    rw [best_step]
    rcases leastE_mem ((List.range t.frm.length).filterMap (t.candV seen f left)) ([],left) with e | e
    · rw [e]
      exact ⟨by simp,by simp,rfl⟩
    · rw [List.mem_filterMap] at e
      obtain ⟨v,hv,hx⟩ := e
      have hv : v < t.frm.length := by simpa using hv
      obtain ⟨hb,q,hq,e⟩ := cand_some hx
      rw [e]
      have hl := free_less t hv hb
      obtain ⟨i1,i2,i3⟩ := ih (seen ||| 2 ^ v) v q (by omega)
      refine ⟨?_,?_,?_⟩
      · refine List.nodup_cons.2 ⟨fun hm => ?_,i1⟩
        have := (i2 _ hm).2.2
        rw [or_bit] at this
        simp at this
      · intro y hy
        rcases List.mem_cons.1 hy with rfl | hy
        · exact ⟨by omega,by omega,by simpa using hb⟩
        · have := i2 y hy
          refine ⟨this.1,this.2.1,?_⟩
          have h3 := this.2.2
          rw [or_bit] at h3
          simp at h3
          exact h3.1
      · show (match t.thru f ((v : Int)).toNat left with | none => none | some q => t.sufT v q _) = _
        rw [show ((v : Int)).toNat = v by simp,hq]
        exact i3
theorem betE_cons (v : Int) (x y : List Int × Int) : betE (v :: x.1,x.2) (v :: y.1,y.2) < 0 ↔ betE x y < 0 := by
  rw [betE_lt,betE_lt]
  simp only [List.length_cons,cmpL_lt_cons]
  constructor
  · rintro (h | ⟨h,h2 | ⟨h2,h3 | h3⟩⟩)
    · exact .inl (by omega)
    · exact .inr ⟨by omega,.inl h2⟩
    · omega
    · exact .inr ⟨by omega,.inr ⟨h2,h3.2⟩⟩
  · rintro (h | ⟨h,h2 | ⟨h2,h3⟩⟩)
    · exact .inl (by omega)
    · exact .inr ⟨by omega,.inl h2⟩
    · exact .inr ⟨by omega,.inr ⟨h2,.inr ⟨by first | trivial | rfl,h3⟩⟩⟩
theorem best_low (t : Tr) : ∀ (o : List Int) (s : Int) (seen : Nat) (f left : Int),SufOk t seen f left (o,s) → ¬ betE (o,s) (t.bestV seen f left) < 0
  | [],s,seen,f,left,h => by
    have hs : some left = some s := h.time
    cases hs
    rw [best_step]
    exact (leastE_low _ _).1
  | v :: r,s,seen,f,left,h => by
    obtain ⟨h1,h2,h3⟩ := h
    have hv := h2 v (by simp)
    have h3' : (match t.thru f v.toNat left with | none => none | some q => t.sufT v q r) = some s := h3
    cases hq : t.thru f v.toNat left with
    | none => rw [hq] at h3'; cases h3'
    | some q =>
      rw [hq] at h3'
      have hn := List.nodup_cons.1 h1
      have ih := best_low t r s (seen ||| 2 ^ v.toNat) v q ⟨hn.2,fun y hy => by
        have hy' := h2 y (List.mem_cons_of_mem _ hy)
        refine ⟨hy'.1,hy'.2.1,?_⟩
        rw [or_bit,hy'.2.2]
        have : v.toNat ≠ y.toNat := fun e => hn.1 (by have : v = y := by omega
                                                      rw [this]; exact hy)
        simpa using this,h3'⟩
      have hvn : ((v.toNat : Nat) : Int) = v := by omega
      have hc : (v :: (t.bestV (seen ||| 2 ^ v.toNat) v q).1,(t.bestV (seen ||| 2 ^ v.toNat) v q).2) ∈ (List.range t.frm.length).filterMap (t.candV seen f left) := by
        rw [List.mem_filterMap]
        refine ⟨v.toNat,List.mem_range.2 (by omega),?_⟩
        unfold Tr.candV
        rw [hv.2.2,hq,hvn]
        rfl
      rw [best_step]
      have hlow := (leastE_low ((List.range t.frm.length).filterMap (t.candV seen f left)) ([],left)).2 _ hc
      intro hx
      rcases betE_total (v :: r,s) (v :: (t.bestV (seen ||| 2 ^ v.toNat) v q).1,(t.bestV (seen ||| 2 ^ v.toNat) v q).2) with e | e | e
      · exact ih ((betE_cons v (r,s) _).1 e)
      · exact hlow (e ▸ hx)
      · exact hlow (betE_trans e hx)

theorem suf_is (t : Tr) : ∀ (o : List Int) (f : Int) (now : Int × Int),(∀ v ∈ o,0 ≤ v) →
    t.sufT f now.2 o = if (t.steps f now o).all (t.holds true) then some (t.over f now o).2 else none
  | [],f,now,_ => rfl
  | v :: r,f,now,h => by
    have hv : ((v.toNat : Nat) : Int) = v := by have := h v (by simp); omega
    have ih := suf_is t r v (t.after v (t.begin f v now)) (fun y hy => h y (List.mem_cons_of_mem _ hy))
    have e2 : (t.begin f v (now.2,now.2)).2 = (t.begin f v now).2 := rfl
    have e3 : (t.after v (t.begin f v now)).2 = (t.begin f v now).2 + (gs t.stay v.toNat).hi := rfl
    show (match t.thru f v.toNat now.2 with | none => none | some q => t.sufT v q r) = _
    have e1 : t.thru f v.toNat now.2 = if (t.begin f v now).2 ≤ (gs t.light v.toNat).hi then some ((t.begin f v now).2 + (gs t.stay v.toNat).hi) else none := by
      unfold Tr.thru
      rw [hv,e2]
    rw [e1]
    show _ = if (t.holds true (v,t.begin f v now) && (t.steps v (t.after v (t.begin f v now)) r).all (t.holds true)) = true then some (t.over v (t.after v (t.begin f v now)) r).2 else none
    have e4 : t.holds true (v,t.begin f v now) = decide ((t.begin f v now).2 ≤ (gs t.light v.toNat).hi) := rfl
    rw [e4]
    by_cases hle : (t.begin f v now).2 ≤ (gs t.light v.toNat).hi
    · rw [if_pos hle,decide_eq_true hle,Bool.true_and,← ih,e3]
    · rw [if_neg hle,decide_eq_false hle,Bool.false_and]
      rfl
theorem is_suf {t : Tr} {o : List Int} (h : ∀ v ∈ o,0 ≤ v) : t.sufT (-1) t.dawn o = if t.is true o then some (t.takes o) else none := by
  have := suf_is t o (-1) (t.dawn,t.dawn) h
  rw [over_at] at this
  exact this
/-! ### all orders: each is there; in which order -/
theorem preO_all {n : Nat} : ∀ (d : Nat) (pre x : List Int),x.length ≤ d → (pre ++ x).Nodup → (∀ v ∈ x,0 ≤ v ∧ v < n) → pre ++ x ∈ preO n d pre
  | 0,pre,x,hl,_,_ => by
    have : x = [] := List.length_eq_zero_iff.1 (by omega)
    subst this
    simp [preO]
  | d + 1,pre,[],_,_,_ => by rw [List.append_nil,preO_succ]; simp
  | d + 1,pre,v :: x,hl,hd,hr => by
    rw [preO_succ]
    have hv := hr v (by simp)
    refine List.mem_cons_of_mem _ (List.mem_flatMap.2 ⟨v.toNat,List.mem_range.2 (by omega),?_⟩)
    have hvn : ((v.toNat : Nat) : Int) = v := by omega
    have hn : v ∉ pre := fun hm => by
      rw [List.nodup_append] at hd
      exact hd.2.2 v hm v (by simp) rfl
    unfold preF
    rw [hvn,if_neg hn]
    have e : pre ++ v :: x = (pre ++ [v]) ++ x := by simp
    rw [e]
    exact preO_all d (pre ++ [v]) x (by simp at hl; omega) (by rw [← e]; exact hd) (fun y hy => hr y (List.mem_cons_of_mem _ hy))
theorem preO_pre {n : Nat} : ∀ (d : Nat) (pre x : List Int),x ∈ preO n d pre → ∃ y,x = pre ++ y
  | 0,pre,x,h => ⟨[],by simpa [preO] using h⟩
  | d + 1,pre,x,h => by
    rw [preO_succ,List.mem_cons,List.mem_flatMap] at h
    rcases h with rfl | ⟨v,_,h⟩
    · exact ⟨[],by simp⟩
    · unfold preF at h
      split at h
      · cases h
      · obtain ⟨y,rfl⟩ := preO_pre d _ x h
        exact ⟨(v : Int) :: y,by simp⟩
theorem cmpL_app : ∀ (p x y : List Int),cmpL (p ++ x) (p ++ y) = cmpL x y
  | [],x,y => rfl
  | a :: p,x,y => by
    show cmpL (a :: (p ++ x)) (a :: (p ++ y)) = _
    rw [cmpL_cons,if_pos ((cmpI_eq a a).2 rfl)]
    exact cmpL_app p x y
theorem preO_sorted {n : Nat} : ∀ (d : Nat) (pre : List Int),(preO n d pre).Pairwise fun a b => cmpL a b < 0
  | 0,pre => by simp [preO]
  | d + 1,pre => by
    rw [preO_succ,List.pairwise_cons]
    have first : ∀ v x,x ∈ preF n d pre v → ∃ y,x = pre ++ (v : Int) :: y := fun v x h => by
      unfold preF at h
      split at h
      · cases h
      · obtain ⟨y,rfl⟩ := preO_pre d _ x h
        exact ⟨y,by simp⟩
    refine ⟨fun x hx => ?_,?_⟩
    · obtain ⟨v,_,hx⟩ := List.mem_flatMap.1 hx
      obtain ⟨y,rfl⟩ := first v x hx
      have h1 := cmpL_app pre [] ((v : Int) :: y)
      rw [List.append_nil] at h1
      rw [h1]
      simp [cmpL]
    · rw [List.pairwise_flatMap]
      refine ⟨fun v _ => ?_,?_⟩
      · unfold preF
        split
        · exact List.Pairwise.nil
        · exact preO_sorted d _
      · refine List.Pairwise.imp (fun {v u} (hvu : v < u) x hx y hy => ?_) (List.pairwise_lt_range)
        obtain ⟨x',rfl⟩ := first v x hx
        obtain ⟨y',rfl⟩ := first u y hy
        rw [cmpL_app,cmpL_lt_cons]
        exact .inl (by omega)

abbrev Tr.key (t : Tr) (x : List Int) : List Int × Int := (x,t.takes x)
theorem cmpL_not {x y : List Int} (h : cmpL x y < 0) : ¬ cmpL y x < 0 := fun h2 => by
  have := cmpL_trans _ _ _ h h2
  rw [cmpL_refl] at this
  omega

/-- The best is an order,sure,with its time. -/
theorem best_facts (t : Tr) : (bestE t).1.Nodup ∧ (∀ v ∈ (bestE t).1,0 ≤ v ∧ v < t.frm.length) ∧ t.is true (bestE t).1 = true ∧ bestE t = t.key (bestE t).1 := by
  obtain ⟨h1,h2,h3⟩ := best_ok t (t.free 0) 0 (-1) t.dawn (Nat.le_refl _)
  have h2' : ∀ v ∈ (bestE t).1,0 ≤ v ∧ v < t.frm.length := fun v hv => ⟨(h2 v hv).1,(h2 v hv).2.1⟩
  have h3' : t.sufT (-1) t.dawn (bestE t).1 = some (bestE t).2 := h3
  rw [is_suf (fun v hv => (h2' v hv).1)] at h3'
  cases hs : t.is true (bestE t).1
  · rw [hs] at h3'; simp at h3'
  · rw [hs] at h3'
    simp at h3'
    exact ⟨h1,h2',rfl,Prod.ext rfl h3'.symm⟩
theorem sure_low {t : Tr} {x : List Int} (hd : x.Nodup) (hr : ∀ v ∈ x,0 ≤ v ∧ v < t.frm.length) (hs : t.is true x = true) : ¬ betE (t.key x) (bestE t) < 0 :=
  best_low t x (t.takes x) 0 (-1) t.dawn ⟨hd,fun v hv => ⟨(hr v hv).1,(hr v hv).2,by simp⟩,by show t.sufT (-1) t.dawn x = _; rw [is_suf (fun v hv => (hr v hv).1),hs]; rfl⟩

theorem tours_filter (n : Nat) : toursL n = (preO n n []).filter (fun x => decide (x.length = n)) := (preO_tour n [] (by simp)).symm
theorem tours_sorted (n : Nat) : (toursL n).Pairwise fun a b => cmpL a b < 0 := by
  rw [tours_filter]
  exact (preO_sorted n []).filter _
theorem tours_all {n : Nat} {x : List Int} (hl : x.length = n) (hd : x.Nodup) (hr : ∀ v ∈ x,0 ≤ v ∧ v < n) : x ∈ toursL n := by
  rw [tours_filter,List.mem_filter]
  have := preO_all (n := n) n [] x (by omega) (by simpa using hd) hr
  rw [List.nil_append] at this
  exact ⟨this,by simpa using hl⟩

end Go.Proofs.Ytphefhpmbahagaa
