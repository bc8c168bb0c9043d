/- What prints can come to, in plain Lean: no program in sight. -/
namespace Go.Proofs.Ytnfhlbmapfoifaa

structure Prt where
  slo : Int
  shi : Int
  wlo : Int
  whi : Int
  marks : Int
deriving DecidableEq

structure Prs where
  cards : List Prt
  llo : Int
  lhi : Int
  olo : Int
  ohi : Int
deriving DecidableEq

/-- The k-th number, the k-th print. -/
def gi (l : List Int) (k : Nat) : Int := l.getD k 0
def gp (l : List Prt) (k : Nat) : Prt := l.getD k ⟨0, 0, 0, 0, 0⟩

def inR (n lo hi : Int) : Bool := decide (lo ≤ n) && decide (n ≤ hi)
def spanOk (lo hi : Int) : Bool := decide (0 ≤ lo) && decide (lo ≤ hi) && decide (hi ≤ 16384)
def Prt.ok (c : Prt) : Bool := spanOk c.slo c.shi && spanOk c.wlo c.whi && inR c.marks 0 1023
def Prs.valid (p : Prs) : Bool := decide (p.cards.length ≤ 5) && p.cards.all Prt.ok && spanOk p.llo p.lhi && spanOk p.olo p.ohi
def Prs.card (p : Prs) (n : Int) : Bool := inR n 0 ((p.cards.length : Int) - 1)

/-- Where one is, so many cards up from a card. -/
def upW (w : List Int) : Nat → Int → Int
  | 0, k => k
  | m + 1, k => upW w m (if k = -1 then -1 else gi w k.toNat)
def roundB (w : List Int) : Bool := (List.range w.length).any fun (c : Nat) => !decide (upW w w.length c = -1)

/-- What is of a card: its size, or how much it shows; by how much it becomes less. -/
def Prt.of (c : Prt) (what : Bool) : Int × Int := if what then (c.wlo, c.whi) else (c.slo, c.shi)
def Prs.by_ (p : Prs) (what : Bool) : Int × Int := if what then (p.olo, p.ohi) else (p.llo, p.lhi)
/-- What can be of a card, by those of these cards that come from it. -/
def goW (by_ : Int × Int) (rec : Nat → (Int × Int) × Bool) (w : List Int) (card : Nat) : (Int × Int) → List Nat → (Int × Int) × Bool
  | own, [] => (own, decide (own.1 ≤ own.2))
  | own, j :: r => if gi w j = (card : Int) then
      (let s := rec j
       if s.2 then goW by_ rec w card (max own.1 (s.1.1 + by_.1), min own.2 (s.1.2 + by_.2)) r else (own, false))
    else goW by_ rec w card own r
def whatF (p : Prs) (w : List Int) (what : Bool) : Nat → Nat → (Int × Int) × Bool
  | 0, _ => ((0, 0), false)
  | d + 1, card => goW (p.by_ what) (whatF p w what d) w card ((gp p.cards card).of what) (List.range w.length)
def canB (p : Prs) (w : List Int) (what : Bool) : Bool := (List.range w.length).all fun (c : Nat) => !decide (gi w c = -1) || (whatF p w what (w.length + 1) c).2
def markedB (p : Prs) (card frm : Nat) : Bool := (List.range 10).all fun d => !(gp p.cards frm).marks.toNat.testBit d || (gp p.cards card).marks.toNat.testBit d
def marksB (p : Prs) (w : List Int) : Bool := (List.range w.length).all fun (c : Nat) => decide (gi w c = -1) || markedB p c (gi w c).toNat
def isWayB (p : Prs) (w : List Int) : Bool := marksB p w && !roundB w && canB p w false && canB p w true

/-- All ways that go on from some cards, in lexicographic order. -/
def froms (n : Nat) : List Int := (List.range (n + 1)).map fun (k : Nat) => (k : Int) - 1
def onW (p : Prs) : Nat → List Int → List (List Int)
  | 0, pre => if isWayB p pre then [pre] else []
  | d + 1, pre => (froms p.cards.length).flatMap fun f => if f = (pre.length : Int) then [] else onW p d (pre ++ [f])
def waysL (p : Prs) : List (List Int) := onW p p.cards.length []

def origN (w : List Int) : Nat := w.countP fun k => decide (k = -1)
def leastW (first : List Int) (l : List (List Int)) : List Int := l.foldl (fun f x => if origN x < origN f then x else f) first
def fewestW (p : Prs) : List Int := leastW ((waysL p).headD []) (waysL p).tail
def comesF (w : List Int) (frm : Int) : Nat → Int → Bool
  | 0, _ => false
  | m + 1, k => if k = -1 then false else if k = frm then true else comesF w frm m (gi w k.toNat)
def comesB (w : List Int) (card frm : Nat) : Bool := comesF w frm (w.length + 1) (gi w card)

/-- The way of an order. -/
def chainF : List Int → Int → List Int → List Int
  | w, _, [] => w
  | w, last, x :: r => chainF (w.set x.toNat last) x r
def chainL (o : List Int) : List Int := chainF (List.replicate o.length 0) (-1) o
def onO (p : Prs) : Nat → List Int → List (List Int)
  | 0, pre => if isWayB p (chainL pre) then [pre] else []
  | d + 1, pre => (List.range p.cards.length).flatMap fun (i : Nat) => if (i : Int) ∈ pre then [] else onO p d (pre ++ [(i : Int)])
def ordersL (p : Prs) : List (List Int) := onO p p.cards.length []

/-- Where a number is in a list; -1: it is not. -/
def indexFrom : List Int → Int → Nat → Int
  | [], _, _ => -1
  | x :: r, v, k => if x = v then (k : Int) else indexFrom r v (k + 1)
def indexL (l : List Int) (v : Int) : Int := indexFrom l v 0

/-- Which orders are left, by bits: how many; those in which a card comes before another one, and the others. -/
def manyS (S : Nat) : Nat := (List.range 128).countP fun k => S.testBit k
def allS (n : Nat) : Nat := (List.range n).foldl (fun s k => s ||| 2 ^ k) 0
def befS (os : List (List Int)) (S : Nat) (a b : Nat) : Nat := ((List.range os.length).filter fun k => S.testBit k && decide (indexL (os.getD k []) a < indexL (os.getD k []) b)).foldl (fun s k => s ||| 2 ^ k) 0
def aftS (os : List (List Int)) (S : Nat) (a b : Nat) : Nat := ((List.range os.length).filter fun k => S.testBit k && !decide (indexL (os.getD k []) a < indexL (os.getD k []) b)).foldl (fun s k => s ||| 2 ^ k) 0
def pairsL (n : Nat) : List (Nat × Nat) := (List.range n).flatMap fun a => ((List.range n).filter fun b => decide (a < b)).map fun b => (a, b)
def needsF (os : List (List Int)) (n : Nat) : Nat → Nat → Nat
  | 0, _ => 0
  | d + 1, S => if manyS S ≤ 1 then 0 else (pairsL n).foldl (fun best x =>
      if befS os S x.1 x.2 ≠ S ∧ aftS os S x.1 x.2 ≠ S then min best (1 + max (needsF os n d (befS os S x.1 x.2)) (needsF os n d (aftS os S x.1 x.2))) else best) (n * n)
def compareL (os : List (List Int)) (n : Nat) : Nat × Nat × Nat := (pairsL n).foldl (fun r x =>
  let m := max (manyS (befS os (allS os.length) x.1 x.2)) (manyS (aftS os (allS os.length) x.1 x.2))
  if m < r.2.2 then (x.1, x.2, m) else r) (0, 0, os.length + 1)

/-! ### what the functions return -/
def openE (p : Prs) (ok : Bool) : Int := if !p.valid then 1 else if !ok then 2 else 0
def fitsE (p : Prs) (card frm : Int) : Bool × Int :=
  let e := openE p (p.card card && p.card frm && !decide (card = frm))
  if e = 0 then (isWayB { p with cards := [gp p.cards frm.toNat, gp p.cards card.toNat] } [-1, 0], 0) else (false, e)
def waysE (p : Prs) : Int × Int := let e := openE p true; if e = 0 then (((waysL p).length : Int), 0) else (0, e)
def bitsOf (l : List Nat) : Nat := l.foldl (fun s n => s ||| 2 ^ n) 0
def parentsE (p : Prs) (card : Int) : Int × Bool × Int :=
  let e := openE p (p.card card)
  if e = 0 then
    (let l := (waysL p).map fun w => gi w card.toNat
     ((bitsOf ((l.filter fun k => !decide (k = -1)).map Int.toNat) : Int), l.any fun k => decide (k = -1), 0))
  else (0, false, e)
def fromE (p : Prs) (card frm : Int) : Int × Int :=
  let e := openE p (p.card card && p.card frm && !decide (card = frm))
  if e = 0 then
    (let few := origN (fewestW p)
     let l := ((waysL p).filter fun w => decide (origN w = few)).map fun w => comesB w card.toNat frm.toNat
     (if l.all id then 2 else if l.any id then 1 else 0, 0))
  else (0, e)
def ordersE (p : Prs) : Int := if !p.valid then 1 else if (ordersL p).isEmpty then 4 else 0

def pileP (n : Nat) : Prs := ⟨[⟨100, 101, 500, 505, 0⟩, ⟨96, 97, 485, 490, 1⟩, ⟨92, 93, 470, 476, 3⟩, ⟨95, 98, 480, 492, 4⟩].take n, 3, 5, 10, 20⟩
def pileQ : Prs := ⟨[⟨100, 110, 500, 530, 0⟩, ⟨100, 110, 500, 530, 0⟩, ⟨100, 110, 500, 530, 0⟩], 0, 5, 0, 10⟩
theorem ex_ways : waysE (pileP 4) = (8, 0) ∧ waysE pileQ = (16, 0) := by decide +kernel
theorem ex_few : fewestW (pileP 4) = [-1, 0, 1, 0] := by decide +kernel
theorem ex_from : fromE (pileP 4) 2 0 = (2, 0) ∧ fromE (pileP 4) 3 1 = (0, 0) := by decide +kernel
theorem ex_orders : ordersL (pileP 3) = [[0, 1, 2]] ∧ (ordersL pileQ).length = 6 ∧ ordersE (pileP 4) = 4 := by decide +kernel
theorem ex_compare : compareL (ordersL pileQ) 3 = (0, 1, 3) ∧ needsF (ordersL pileQ) 3 7 (allS 6) = 3 := by decide +kernel
theorem ex_fits : fitsE (pileP 4) 1 0 = (true, 0) ∧ fitsE (pileP 4) 2 0 = (false, 0) ∧ fitsE (pileP 4) 2 3 = (false, 0) := by decide +kernel
theorem ex_parents : parentsE (pileP 4) 2 = (2, true, 0) ∧ parentsE (pileP 4) 0 = (0, true, 0) := by decide +kernel
end Go.Proofs.Ytnfhlbmapfoifaa
