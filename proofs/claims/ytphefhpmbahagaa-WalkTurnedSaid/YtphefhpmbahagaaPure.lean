/- What tours can come to, in plain Lean: no program in sight. -/
namespace Go.Proofs.Ytphefhpmbahagaa

structure Spn where
  lo : Int
  hi : Int
deriving DecidableEq
structure Tr where
  dawn : Int
  frm : List Spn
  ways : List (List Spn)
  stay : List Spn
  light : List Spn
deriving DecidableEq

/-- The k-th number,span,list of spans. -/
def gi (l : List Int) (k : Nat) : Int := l.getD k 0
def gs (l : List Spn) (k : Nat) : Spn := l.getD k ⟨0,0⟩
def gw (l : List (List Spn)) (k : Nat) : List Spn := l.getD k []

def inR (n lo hi : Int) : Bool := decide (lo ≤ n) && decide (n ≤ hi)
def Spn.ok (s : Spn) : Bool := decide (0 ≤ s.lo) && decide (s.lo ≤ s.hi) && decide (s.hi ≤ 1440)
def areB (l : List Spn) (n : Nat) : Bool := decide (l.length = n) && l.all Spn.ok
def Tr.n (t : Tr) : Nat := t.frm.length
def Tr.valid (t : Tr) : Bool := decide (t.n ≤ 6) && decide (t.ways.length = t.n) && inR t.dawn 0 1440 && (t.ways ++ [t.frm,t.stay,t.light]).all fun l => areB l t.n
def Tr.view (t : Tr) (v : Int) : Bool := inR v 0 ((t.n : Int) - 1)
def Tr.order (t : Tr) (l : List Int) : Bool := l.all t.view && decide l.Nodup

/-- A walk: where one comes from (-1: the village),when. -/
def Tr.way (t : Tr) (frm v : Int) : Spn := if frm = -1 then gs t.frm v.toNat else gs (gw t.ways frm.toNat) v.toNat
def Tr.begin (t : Tr) (frm v : Int) (now : Int × Int) : Int × Int := (max (now.1 + (t.way frm v).lo) (gs t.light v.toNat).lo,max (now.2 + (t.way frm v).hi) (gs t.light v.toNat).lo)
def Tr.after (t : Tr) (v : Int) (now : Int × Int) : Int × Int := (now.1 + (gs t.stay v.toNat).lo,now.2 + (gs t.stay v.toNat).hi)
def Tr.steps (t : Tr) : Int → Int × Int → List Int → List (Int × Int × Int)
  | _,_,[] => []
  | frm,now,v :: r => (v,t.begin frm v now) :: t.steps v (t.after v (t.begin frm v now)) r
def Tr.over (t : Tr) : Int → Int × Int → List Int → Int × Int
  | _,now,[] => now
  | frm,now,v :: r => t.over v (t.after v (t.begin frm v now)) r
/-- Whether a view is surely in time; whether it can be. -/
def Tr.holds (t : Tr) (q : Bool) (x : Int × Int × Int) : Bool := decide ((if q then x.2.2 else x.2.1) ≤ (gs t.light x.1.toNat).hi)
def Tr.is (t : Tr) (q : Bool) (o : List Int) : Bool := (t.steps (-1) (t.dawn,t.dawn) o).all (t.holds q)

/-! ### what the functions return -/
def openE (t : Tr) (ok : Bool) : Int := if !t.valid then 1 else if !ok then 2 else 0
def walkedE (t : Tr) (o : List Int) : Int × Int := if openE t (t.order o) = 0 then (if t.is true o then 2 else if t.is false o then 1 else 0,0) else (0,openE t (t.order o))
end Go.Proofs.Ytphefhpmbahagaa
