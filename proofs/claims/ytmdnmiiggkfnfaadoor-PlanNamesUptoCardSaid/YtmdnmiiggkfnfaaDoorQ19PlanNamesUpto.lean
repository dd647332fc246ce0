/- Texts put together for a claim. -/
import Derived.Test.YtmdnmiiggkfnfaaDoorQ14PlanNamesUpto
import Derived.Test.YtmdnmiiggkfnfaaDoorQ9PlanNamesUpto
import Derived.Test.YtmdnmiiggkfnfaaDoorQ18PlanNamesUpto
import Derived.Lib.SlicesS
/- Layouts as texts: the program's plan as plain functions. -/
set_option linter.unusedVariables false
set_option linter.unusedSimpArgs false
namespace Go.Proofs.YtmdnmiiggkfnfaaDoor
open Go.RowKit

def secW : ByteArray := ⟨#[115, 101, 99, 116, 105, 111, 110]⟩
def sigW : ByteArray := ⟨#[115, 105, 103, 110, 97, 108]⟩
def ptW : ByteArray := ⟨#[112, 111, 105, 110, 116]⟩
def rtW : ByteArray := ⟨#[114, 111, 117, 116, 101]⟩
def inW : ByteArray := ⟨#[105, 110]⟩
def fromW : ByteArray := ⟨#[102, 114, 111, 109]⟩
def toW : ByteArray := ⟨#[116, 111]⟩
def viaW : ByteArray := ⟨#[118, 105, 97]⟩
def setT : ByteArray := ⟨#[115, 101, 116]⟩
def flankT : ByteArray := ⟨#[102, 108, 97, 110, 107]⟩

structure Wnt where
  name : ByteArray
  rev : Bool
deriving DecidableEq
structure Lin where
  kind : ByteArray
  names : List ByteArray
  via : List ByteArray
  set : List Wnt
  flank : List Wnt
/-- A reader: the words left, the first error. -/
structure Rd where
  rest : List ByteArray
  err : Int
deriving DecidableEq

/-- The first error stays. -/
def or0 (e f : Int) : Int := if e = 0 then f else e
def Rd.fail (r : Rd) (e : Int) : Rd := ⟨r.rest, or0 r.err e⟩
def Rd.more (r : Rd) : Bool := decide (r.err = 0) && !r.rest.isEmpty
def Rd.isW (r : Rd) (s : ByteArray) : Bool := r.more && decide (r.rest.headD .empty = s)
def Rd.skip (r : Rd) : Rd := ⟨r.rest.tail, r.err⟩
def Rd.next (r : Rd) : ByteArray × Rd := if r.more = true then (r.rest.headD .empty, r.skip) else (.empty, r.fail 2)
def Rd.word (r : Rd) (s : ByteArray) : Rd := if r.next.1 = s then r.next.2 else r.next.2.fail 2
def Rd.name (r : Rd) : ByteArray × Rd := (r.next.1, if r.next.2.err = 0 ∧ nmB r.next.1 = false then r.next.2.fail 3 else r.next.2)
/-- Does a text end by a byte? -/
def endsB (s : ByteArray) (c : UInt8) : Bool := [c].isSuffixOf s.data.toList
def chop (s : ByteArray) : ByteArray := ⟨(s.data.toList.take (s.data.toList.length - 1)).toArray⟩
def wantOf (s : ByteArray) : Wnt × Int :=
  if endsB s 43 = true then (⟨chop s, false⟩, if nmB (chop s) = true then 0 else 3)
  else if endsB s 45 = true then (⟨chop s, true⟩, if nmB (chop s) = true then 0 else 3)
  else (⟨s, false⟩, 2)
def Rd.want (r : Rd) : Wnt × Rd := ((wantOf r.next.1).1, r.next.2.fail (wantOf r.next.1).2)
/-- Wants, up to the end or to 'flank'. -/
def wantsL : List ByteArray → List Wnt × Rd
  | [] => ([], ⟨[], 0⟩)
  | x :: t => if x = flankT then ([], ⟨x :: t, 0⟩) else if (wantOf x).2 = 0 then ((wantOf x).1 :: (wantsL t).1, (wantsL t).2) else ([(wantOf x).1], ⟨t, (wantOf x).2⟩)
def Rd.wantsGo (r : Rd) : List Wnt × Rd := if r.err = 0 then wantsL r.rest else ([], r)
def Rd.wants (r : Rd) (s : ByteArray) : List Wnt × Rd :=
  if r.isW s = true then (r.skip.want.1 :: r.skip.want.2.wantsGo.1, r.skip.want.2.wantsGo.2) else ([], r)
/-- Names, up to the end, 'set' or 'flank'. -/
def viaL : List ByteArray → List ByteArray × Rd
  | [] => ([], ⟨[], 0⟩)
  | x :: t => if x = setT then ([], ⟨x :: t, 0⟩) else if x = flankT then ([], ⟨x :: t, 0⟩) else if nmB x = true then (x :: (viaL t).1, (viaL t).2) else ([x], ⟨t, 3⟩)
def Rd.viaGo (r : Rd) : List ByteArray × Rd := if r.err = 0 then viaL r.rest else ([], r)
def Rd.endM (r : Rd) : Rd := if r.more = true then r.fail 2 else r
/-- What stands behind a route's name. -/
structure Rt3 where
  names : List ByteArray
  via : List ByteArray
  set : List Wnt
  flank : List Wnt
def Rd.route (r : Rd) : Rt3 × Rd :=
  let a := (r.word fromW).name
  let b := (a.2.word toW).name
  let c := (b.2.word viaW).name
  let d := c.2.viaGo
  let e := d.2.wants setT
  let f := e.2.wants flankT
  (⟨[a.1, b.1], c.1 :: d.1, e.1, f.1⟩, f.2)
def Rd.take (r : Rd) : Lin × Rd :=
  let k := r.next.1
  let a := r.next.2.name
  if k = secW then (⟨k, [a.1], [], [], []⟩, a.2.endM)
  else if k = sigW then (⟨k, [a.1], [], [], []⟩, a.2.endM)
  else if k = ptW then (⟨k, [a.1, (a.2.word inW).name.1], [], [], []⟩, (a.2.word inW).name.2.endM)
  else if k = rtW then (⟨k, a.1 :: a.2.route.1.names, a.2.route.1.via, a.2.route.1.set, a.2.route.1.flank⟩, a.2.route.2.endM)
  else (⟨k, [], [], [], []⟩, (r.next.2.fail 2).endM)

/-- Where a name stands; -1. -/
def idxS (l : List ByteArray) (s : ByteArray) : Int := Lib.idxOfS l s
def placeE (l : List ByteArray) (e : Int) (s : ByteArray) : Int := or0 e (if idxS l s < 0 then 5 else 0)
def placesE (l : List ByteArray) (e : Int) (ss : List ByteArray) : Int := ss.foldl (placeE l) e
def needsP (l : List ByteArray) (ws : List Wnt) : List Need := ws.map fun x => ⟨idxS l x.name, x.rev⟩
def newE (l : List ByteArray) (s : ByteArray) (e : Int) : Int := if Lib.containsS l s = true then 4 else e
def fitE (n most : Int) (e : Int) : Int := or0 e (if most < n then 6 else 0)
def nth (l : List ByteArray) (k : Nat) : ByteArray := l.getD k .empty
def ptNames (L : Lay) : List ByteArray := L.pts.map Pt.name
def rtNames (L : Lay) : List ByteArray := L.rtes.map Rte.name
/-- A route's error, as far as it is told ahead of the room for it. -/
def routeE (L : Lay) (x : Lin) : Int :=
  placesE (ptNames L) (placesE (ptNames L) (placesE L.secs (placeE L.sigs (placeE L.sigs (newE (rtNames L) (nth x.names 0) 0) (nth x.names 1)) (nth x.names 2)) x.via) (x.set.map Wnt.name)) (x.flank.map Wnt.name)
def routeF (L : Lay) (x : Lin) : Int := fitE (L.rtes.length + 1) 6 (routeE L x)
def routeG (L : Lay) (x : Lin) : Int := fitE (max x.set.length x.flank.length) 5 (fitE x.via.length 5 (routeF L x))
def routeV (L : Lay) (x : Lin) : Rte := ⟨nth x.names 0, idxS L.sigs (nth x.names 1), idxS L.sigs (nth x.names 2), x.via.map (idxS L.secs), needsP (ptNames L) x.set, needsP (ptNames L) x.flank⟩
def putsM (L : Lay) (x : Lin) : Lay × Int :=
  if x.kind = secW then
    let e := fitE (L.secs.length + 1) 10 (newE L.secs (nth x.names 0) 0)
    (if e = 0 then { L with secs := L.secs ++ [nth x.names 0] } else L, e)
  else if x.kind = sigW then
    let e := fitE (L.sigs.length + 1) 6 (newE L.sigs (nth x.names 0) 0)
    (if e = 0 then { L with sigs := L.sigs ++ [nth x.names 0] } else L, e)
  else if x.kind = ptW then
    let e := fitE (L.pts.length + 1) 5 (placeE L.secs (newE (ptNames L) (nth x.names 0) 0) (nth x.names 1))
    (if e = 0 then { L with pts := L.pts ++ [⟨nth x.names 0, idxS L.secs (nth x.names 1)⟩] } else L, e)
  else (if routeG L x = 0 then { L with rtes := L.rtes ++ [routeV L x] } else L, routeG L x)
/-- Words of a line, put. -/
def readT (L : Lay) (ws : List ByteArray) : Lay × Int :=
  if ws = [] then (L, 0) else if (Rd.take ⟨ws, 0⟩).2.err ≠ 0 then (L, (Rd.take ⟨ws, 0⟩).2.err) else putsM L (Rd.take ⟨ws, 0⟩).1
def bare (l : List Nat) : List Nat := l.takeWhile fun c => c != 35
def readM (L : Lay) (l : List Nat) : Lay × Int :=
  if 0 ≤ (wordsL (bare l)).2 then (L, 2) else readT L ((wordsL (bare l)).1.map Prod.fst)
def lay0 : Lay := ⟨[], [], [], []⟩
def linesL : List Nat → List (List Nat)
  | [] => []
  | c :: t => if c = 10 then [] :: linesL t else match linesL t with
    | [] => [[c]]
    | l :: ls => (c :: l) :: ls
def parseGo : Lay → Nat → List (List Nat) → Lay × Nat × Int
  | L, n, [] => (L, n, 0)
  | L, n, l :: ls => if 60 < n + 1 then (lay0, n + 1, 6) else if (readM L l).2 ≠ 0 then (lay0, n + 1, (readM L l).2) else parseGo (readM L l).1 (n + 1) ls
def parseM (s : ByteArray) : Lay × Nat × Int := parseGo lay0 0 (linesL (byt s))
end Go.Proofs.YtmdnmiiggkfnfaaDoor
