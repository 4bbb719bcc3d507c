/- Units that are written anew: the plain words of package regs. Clashes, colours, homes; the unit that is written; the check: the plain words of package regs. -/
import Derived.Test.YtgalekifgnecjaaGreatB1
namespace Go.Proofs.YtgalekifgnecjaaGreat
open Go.RowKit


def opB (n : Int) (i : InsN) : Bool := i.op == n
def endsB (i : InsN) : Bool := i.op == 24 || i.op == 26 || i.op == 27 || i.op == 28
def callB (i : InsN) : Bool := i.op == 20 || i.op == 22
def argB (i : InsN) : Bool := i.op == 19
/-- The place that an instruction names. -/
def placeO (i : InsN) : Option Int := if i.op == 24 then some i.a else if i.op == 25 || i.op == 32 then some i.b else none
def raiseT : List Int := [6, 7, 8, 9, 10, 17, 20, 21, 22, 23, 26, 27, 30, 32]
def raisesB (i : InsN) : Bool := raiseT.contains i.op
def readPart (i : InsN) (k : Int) : List Int := if 0 < k ∧ partN i (k - 1).toNat ≠ -1 then [partN i (k - 1).toNat] else []
/-- The slots that an instruction reads. -/
def readsL (i : InsN) : List Int := readPart i (formL i.op).r0 ++ readPart i (formL i.op).r1
/-- The slot that an instruction writes, or -1. -/
def writesI (i : InsN) : Int := if (formL i.op).wr = 0 then -1 else partN i ((formL i.op).wr - 1).toNat
/-- A plain unit. -/
def plainIns (n : Nat) (i : InsN) : Bool := opOk i.op && (placesL i).all fun p => inN p 0 ((n : Int) - 1)
def plainGrd (n : Nat) (g : GrdN) : Bool := decide (0 ≤ g.frm) && decide (g.frm < g.til) && decide (g.til ≤ n) && inN g.at' 0 ((n : Int) - 1)
def plainB (u : UntN) : Bool := inN u.code.length 1 600 && decide (u.guards.length ≤ 40) && inN u.slots 0 200 && inN u.frame 0 200 && u.code.all (plainIns u.code.length) && u.guards.all (plainGrd u.code.length)

/-- How many arguments stand ahead of an instruction. -/
def runN (code : List InsN) (i : Nat) : Nat := ((code.take i).reverse.takeWhile argB).length
def risingB (l : List InsN) : Bool := (List.range l.length).all fun k => (l.getD k ins0).a == (k : Int)
/-- The longest end of the run that begins with 0 and goes on by 1. -/
def grpGo (code : List InsN) (i : Nat) : Nat → Nat
  | 0 => 0
  | n + 1 => if risingB ((code.drop (i - (n + 1))).take (n + 1)) = true then n + 1 else grpGo code i n
def grpN (code : List InsN) (i : Nat) : Nat := grpGo code i (runN code i)
/-- So many entries from a place on become a number. -/
def setMany (l : List Int) (a : Nat) (v : Int) : Nat → List Int
  | 0 => l
  | n + 1 => (setMany l a v n).set (a + n) v
def fsOne (code : List InsN) (out : List Int) (i : Nat) : List Int := out.set i (if argB (code.getD i ins0) = true then -1 else i)
def fsStep (code : List InsN) (out : List Int) (i : Nat) : List Int :=
  if callB (code.getD i ins0) = true ∧ 0 < grpN code i then setMany (fsOne code out i) (i - grpN code i) (i - grpN code i : Nat) (grpN code i + 1) else fsOne code out i
/-- The first instruction of each one's group, when so many have been gone through. -/
def fsTo (code : List InsN) : Nat → List Int
  | 0 => List.replicate code.length 0
  | k + 1 => fsStep code (fsTo code k) k
def firstsL (code : List InsN) : List Int := fsTo code code.length
/-- A unit can be written anew. -/
def innerB (fs : List Int) (p : Int) : Bool := fs.getD p.toNat 0 != p
def writIns (u : UntN) (fs : List Int) (k : Nat) : Bool :=
  (readsL (u.code.getD k ins0)).all (fun s => inN s 0 (u.slots - 1)) && (writesI (u.code.getD k ins0) == -1 || inN (writesI (u.code.getD k ins0)) 0 (u.slots - 1)) &&
  !decide (fs.getD k 0 < 0) && !((u.code.getD k ins0).op == 33) && !((u.code.getD k ins0).op == 34) &&
  !(match placeO (u.code.getD k ins0) with | some p => innerB fs p | none => false) &&
  !(decide (0 ≤ guardL u k) && raisesB (u.code.getD k ins0) && innerB fs (u.guards.getD (guardL u k).toNat grd0).at')
def writB (u : UntN) : Bool :=
  plainB u && u.frame == 0 && decide (1 ≤ u.slots) && inN u.args 0 u.slots && endsB (u.code.getD (u.code.length - 1) ins0) &&
  (List.range u.code.length).all (writIns u (firstsL u.code))

def addL (l more : List Int) : List Int := more.foldl (fun l n => if l.contains n = true then l else l ++ [n]) l
/-- A group. -/
structure GrpN where
  frm : Nat
  til : Nat
  reads : List Int
  wr : Int
/-- The last instruction of the group that begins at a place. -/
def grpEnd (fs : List Int) (i : Nat) : Nat := i + ((fs.drop (i + 1)).takeWhile (· == (i : Int))).length
def grpReads (code : List InsN) (i j : Nat) : List Int := ((code.drop i).take (j + 1 - i)).foldl (fun l x => addL l (readsL x)) []
def grpAt (code : List InsN) (fs : List Int) (i : Nat) : GrpN := ⟨i, grpEnd fs i, grpReads code i (grpEnd fs i), writesI (code.getD (grpEnd fs i) ins0)⟩
def grpsGo (code : List InsN) (fs : List Int) : Nat → Nat → List GrpN
  | 0, _ => []
  | f + 1, i => if i < code.length then grpAt code fs i :: grpsGo code fs f (grpEnd fs i + 1) else []
/-- The groups of a unit. -/
def groupsL (u : UntN) : List GrpN := grpsGo u.code (firstsL u.code) u.code.length 0
def leastL (l : List GrpN) : Nat := l.foldl (fun n g => max n g.reads.length) 1
def leastN (u : UntN) : Nat := leastL (groupsL u)

/-- Where an instruction leads by itself. -/
def bySelf (u : UntN) (t : Nat) : List Int :=
  addL (if (!(endsB (u.code.getD t ins0)) && decide (t + 1 < u.code.length)) = true then [((t : Int) + 1)] else []) (placeO (u.code.getD t ins0)).toList
def needL (live : List (List Int)) (l : List Int) : List Int := l.foldl (fun out p => addL out (live.getD p.toNat [])) []
def nextL (u : UntN) (t : Nat) : List Int :=
  addL (bySelf u t) (if (decide (0 ≤ guardL u t) && raisesB (u.code.getD t ins0)) = true then [(u.guards.getD (guardL u t).toNat grd0).at'] else [])

/-- A number put into a list in order, once. -/
def insS (x : Int) : List Int → List Int
  | [] => [x]
  | y :: l => if x < y then x :: y :: l else if x = y then y :: l else y :: insS x l
/-- What is needed ahead of an instruction, by what is needed ahead of others. -/
def nowS (u : UntN) (ahead : List (List Int)) (t : Nat) : List Int :=
  (readsL (u.code.getD t ins0)).foldl (fun s n => insS n s)
    ((leadsL u t).foldl (fun s x => ((ahead.getD x.1.toNat []).filter fun n => x.2 == 2 || n != writesI (u.code.getD t ins0)).foldl (fun s n => insS n s) s) [])
/-- One round over the instructions, from the last one on: t are still to come. -/
def liveOne (u : UntN) : Nat → List (List Int) × Bool → List (List Int) × Bool
  | 0, s => s
  | t + 1, s => liveOne u t (if (nowS u s.1 t).length ≠ (s.1.getD t []).length then (s.1.set t (nowS u s.1 t), true) else s)
def liveGo (u : UntN) : Nat → List (List Int) → List (List Int)
  | 0, s => s
  | f + 1, s => if (liveOne u u.code.length (s, false)).2 = true then liveGo u f (liveOne u u.code.length (s, false)).1 else (liveOne u u.code.length (s, false)).1


/-- What is needed ahead of each instruction. -/
def liveL (u : UntN) : List (List Int) := liveGo u (2 * u.code.length * u.code.length + 1) (List.replicate u.code.length [])
/-- A pair put into a list in order, once. -/
def ltP (x y : Int × Int) : Bool := decide (x.1 < y.1) || (x.1 == y.1 && decide (x.2 < y.2))
def insP (x : Int × Int) : List (Int × Int) → List (Int × Int)
  | [] => [x]
  | y :: l => if ltP x y = true then x :: y :: l else if x = y then y :: l else y :: insP x l
def pairP (a b : Int) : Int × Int := (min a b, max a b)
def noteP (l : List (Int × Int)) (a b : Int) : List (Int × Int) := if a = b then l else insP (pairP a b) l
/-- The pairs of arguments. -/
def clArgs (l : List (Int × Int)) : Nat → List (Int × Int)
  | 0 => l
  | n + 1 => (List.range n).foldl (fun l (b : Nat) => noteP l n b) (clArgs l n)
def clLive (l : List (Int × Int)) (s0 : List Int) : Nat → List (Int × Int)
  | 0 => l
  | n + 1 => s0.foldl (fun l s => noteP l n s) (clLive l s0 n)
def clIns (u : UntN) (live : List (List Int)) (l : List (Int × Int)) (t : Nat) : List (Int × Int) :=
  if 0 ≤ writesI (u.code.getD t ins0) then (needL live (bySelf u t)).foldl (fun l s => noteP l (writesI (u.code.getD t ins0)) s) l else l
/-- The pairs of slots that clash. -/
def clashL (u : UntN) : List (Int × Int) :=
  (List.range u.code.length).foldl (clIns u (liveL u)) (clLive (clArgs [] u.args.toNat) ((liveL u).getD 0 []) u.args.toNat)
def clB (cl : List (Int × Int)) (a b : Int) : Bool := cl.contains (pairP a b)
/-- The least colour that no clashing slot has, of those that have one. -/
def colBad (cl had : List (Int × Int)) (s : Int) (n : Nat) : Bool := had.any fun x => x.2 == (n : Int) && clB cl s x.1
def colGo (cl had : List (Int × Int)) (s : Int) : Nat → Nat → Nat
  | 0, n => n
  | f + 1, n => if colBad cl had s n = true then colGo cl had s f (n + 1) else n
def colN (cl had : List (Int × Int)) (s : Int) : Nat := colGo cl had s (had.length + 1) 0
/-- The colours of so many slots. -/
def colsTo (cl : List (Int × Int)) : Nat → List (Int × Int)
  | 0 => []
  | n + 1 => colsTo cl n ++ [((n : Int), (colN cl (colsTo cl n) n : Int))]
def manyL (l : List (Int × Int)) : Int := l.foldl (fun m x => max m (x.2 + 1)) 0
def usedL (u : UntN) : List Int :=
  u.code.foldl (fun l x => if 0 ≤ writesI x then insS (writesI x) ((readsL x).foldl (fun l s => insS s l) l) else (readsL x).foldl (fun l s => insS s l) l) ((List.range u.args.toNat).map Int.ofNat)
/-- What has been housed: who has which colour, the homes, the cells. -/
structure HouN where
  had : List (Int × Int)
  out : List Int
  cells : Int
def houOne (cl : List (Int × Int)) (us : List Int) (keep args : Int) (h : HouN) (s : Nat) : HouN :=
  if us.contains (s : Int) = true then
    if (colN cl h.had s : Int) < keep then ⟨h.had ++ [((s : Int), (colN cl h.had s : Int))], h.out ++ [(colN cl h.had s : Int)], h.cells⟩
    else if (s : Int) < args then ⟨h.had, h.out ++ [-2 - (s : Int)], h.cells⟩
    else ⟨h.had, h.out ++ [-2 - h.cells], h.cells + 1⟩
  else ⟨h.had, h.out ++ [-1], h.cells⟩
def houL (u : UntN) (k : Int) : HouN := (List.range u.slots.toNat).foldl (houOne (clashL u) (usedL u) (k - leastN u) u.args) ⟨[], [], u.args⟩

def homeN (h : List Int) (s : Int) : Int := h.getD s.toNat 0
def takenB (h : List Int) (reg : Int) (l : List Int) : Bool := l.any fun s => homeN h s == reg
/-- The registers that are the home of no slot that is needed. -/
def freeL (h : List Int) (k : Nat) (l : List Int) : List Int := ((List.range k).filter fun (r : Nat) => !(takenB h r l)).map Int.ofNat
def rdB : List Int := [4, 11, 15, 16, 17, 18, 19, 20]
def rdBC : List Int := [6, 7, 8, 9, 10, 12, 13, 14]
def rdA : List Int := [22, 23, 28, 29, 25, 30, 32]
def setR (x : Int) (f : Int → Int) : Int := if 0 ≤ x then f x else x
/-- An instruction whose slots are replaced. -/
def replI (x : InsN) (rd wr : Int → Int) : InsN :=
  if rdA.contains x.op = true then { x with a := setR x.a rd }
  else if rdBC.contains x.op = true then { x with a := if 0 ≤ writesI x then setR x.a wr else x.a, b := setR x.b rd, c := setR x.c rd }
  else if rdB.contains x.op = true then { x with a := if 0 ≤ writesI x then setR x.a wr else x.a, b := setR x.b rd }
  else { x with a := if 0 ≤ writesI x then setR x.a wr else x.a }
/-- The place that an instruction names becomes another. -/
def movI (at' : List Int) (x : InsN) : InsN := if x.op == 24 then { x with a := at'.getD x.a.toNat 0 } else if x.op == 25 || x.op == 32 then { x with b := at'.getD x.b.toNat 0 } else x
def loadI (a b : Int) : InsN := ⟨33, a, b, 0⟩
def storeI (a b : Int) : InsN := ⟨34, a, b, 0⟩
/-- What has been written. -/
structure WriN where
  code : List InsN
  ats : List Int
def grpBehind (u : UntN) (live : List (List Int)) (g : GrpN) : List Int := needL live (nextL u g.til)
def grpBusy (u : UntN) (live : List (List Int)) (g : GrpN) : List Int := addL (live.getD g.frm []) (grpBehind u live g)
def grpLoads (h : List Int) (g : GrpN) : List Int := g.reads.filter fun s => decide (homeN h s ≤ -2)
def inTmp (loads temps : List Int) (s : Int) : Int := temps.getD (loads.idxOf s) 0
def rdTo (h loads temps : List Int) (s : Int) : Int := if 0 ≤ homeN h s then homeN h s else inTmp loads temps s
def wrTo (h fr : List Int) (s : Int) : Int := if 0 ≤ homeN h s then homeN h s else fr.getD 0 0
def grpIns (u : UntN) (h loads temps fr : List Int) (w : WriN) (i : Nat) : WriN :=
  ⟨w.code ++ [replI (u.code.getD i ins0) (rdTo h loads temps) (wrTo h fr)], w.ats.set i w.code.length⟩
def grpWri (u : UntN) (live : List (List Int)) (h : List Int) (k : Nat) (w : WriN) (g : GrpN) : WriN :=
  let loads := grpLoads h g
  let temps := freeL h k (grpBusy u live g)
  let fr := freeL h k (grpBehind u live g)
  let w1 : WriN := ⟨w.code ++ loads.map (fun s => loadI (inTmp loads temps s) (-2 - homeN h s)), w.ats.set g.frm w.code.length⟩
  let w2 : WriN := ⟨w1.code ++ [replI (u.code.getD g.frm ins0) (rdTo h loads temps) (wrTo h fr)], w1.ats⟩
  let w3 := ((List.range (g.til - g.frm)).map (g.frm + 1 + ·)).foldl (grpIns u h loads temps fr) w2
  if 0 ≤ g.wr ∧ homeN h g.wr ≤ -2 then ⟨w3.code ++ [storeI (-2 - homeN h g.wr) (wrTo h fr g.wr)], w3.ats⟩ else w3
def argLoads (h : List Int) (args : Nat) : List InsN := ((List.range args).filter fun (s : Nat) => decide (0 ≤ homeN h s)).map fun (s : Nat) => loadI (homeN h s) s
def wriL (u : UntN) (k : Nat) : WriN :=
  (groupsL u).foldl (grpWri u (liveL u) (houL u k).out k) ⟨argLoads (houL u k).out u.args.toNat, List.replicate u.code.length 0⟩
def grdTo (u : UntN) (ats : List Int) (n : Nat) (g : GrdN) : GrdN := ⟨ats.getD g.frm.toNat 0, if g.til < u.code.length then ats.getD g.til.toNat 0 else n, ats.getD g.at'.toNat 0⟩
/-- The unit that is written, its homes, the error. -/
structure RegN where
  v : UntN
  hs : List Int
  at' : List Int
  e : Int
def unt0 : UntN := ⟨⟨#[]⟩, ⟨#[]⟩, 0, 0, 0, [], []⟩
def regU (u : UntN) (k : Nat) (w : WriN) : UntN := ⟨u.cls, u.name, u.args, k, (houL u k).cells, w.code.map (movI w.ats), u.guards.map (grdTo u w.ats w.code.length)⟩
def regsL (u : UntN) (k : Int) : RegN :=
  if writB u = true ∧ inN k 1 200 = true then
    if u.slots ≤ k then ⟨u, (List.range u.slots.toNat).map Int.ofNat, (List.range u.code.length).map Int.ofNat, 0⟩
    else if k < leastN u then ⟨unt0, [], [], 14⟩
    else if 600 < (wriL u k.toNat).code.length ∨ 200 < (houL u k).cells then ⟨unt0, [], [], 14⟩
    else ⟨regU u k.toNat (wriL u k.toNat), (houL u k).out, (wriL u k.toNat).ats, 0⟩
  else ⟨unt0, [], [], 1⟩

/-- The homes of slots are right. -/
def homOne (v : UntN) (h : List Int) (cl : List (Int × Int)) (us : List Int) (s : Nat) : Bool :=
  ((homeN h s == -1 && !us.contains (s : Int)) || inN (homeN h s) 0 (v.slots - 1) || (decide (homeN h s ≤ -2) && inN (-2 - homeN h s) 0 (v.frame - 1))) &&
  (List.range s).all fun t => !clB cl s t || homeN h s != homeN h t
def homArg (v : UntN) (h : List Int) (l0 : List Int) (i : Nat) : Bool :=
  if v.frame = 0 then homeN h i == (i : Int)
  else decide ((i : Int) < v.frame) && ((List.range h.length).all fun t => homeN h t != -2 - (i : Int) || t == i || !l0.contains (t : Int)) && (decide (0 ≤ homeN h i) || homeN h i == -2 - (i : Int))
def homedB (u v : UntN) (h at' : List Int) : Bool :=
  decide ((h.length : Int) = u.slots) && at'.length == u.code.length && u.cls == v.cls && u.name == v.name && u.args == v.args && inN v.slots 1 u.slots && inN v.frame 0 200 && decide (v.code.length ≤ 600) &&
  (List.range h.length).all (homOne v h (clashL u) (usedL u)) && (List.range u.args.toNat).all (homArg v h ((liveL u).getD 0 []))
instance : DecidableEq InsN := fun x y => by
  cases x; cases y
  simp only [InsN.mk.injEq]
  exact inferInstance
instance : DecidableEq GrdN := fun x y => by
  cases x; cases y
  simp only [GrdN.mk.injEq]
  exact inferInstance
/-- The next instruction is this one. -/
def nxtI (v : UntN) (at' : Nat) (x : InsN) : Option Nat := if v.code[at']? = some x then some (at' + 1) else none
def begL (v : UntN) (h : List Int) : Nat → Option Nat
  | 0 => some 0
  | i + 1 => (begL v h i).bind fun at' => if v.frame ≠ 0 ∧ 0 ≤ homeN h i then nxtI v at' (loadI (homeN h i) i) else some at'
/-- The loads of a group: where they end, and which register each slot is in. -/
def ldOne (v : UntN) (h reads needed : List Int) (x : InsN) (had : List Int) : Bool :=
  x.c == 0 && inN x.a 0 (v.slots - 1) && !had.contains x.a && !takenB h x.a needed && decide (0 ≤ x.b) && reads.any fun s => homeN h s == -2 - x.b
def ldPut (h reads : List Int) (x : InsN) (m : List (Int × Int)) : List (Int × Int) := m ++ (reads.filter fun s => homeN h s == -2 - x.b).map fun s => (s, x.a)
def ldGo (v : UntN) (h reads needed : List Int) : Nat → Nat → List Int → List (Int × Int) → Option (Nat × List (Int × Int))
  | 0, _, _, _ => none
  | f + 1, at', had, m =>
    match v.code[at']? with
    | none => some (at', m)
    | some x => if x.op ≠ 33 then some (at', m) else if ldOne v h reads needed x had = true then ldGo v h reads needed f (at' + 1) (had ++ [x.a]) (ldPut h reads x m) else none
/-- The register that a slot was loaded into last. -/
def lastP (m : List (Int × Int)) (s : Int) : Option Int := (m.reverse.find? fun x => x.1 == s).map (·.2)
def rdChk (h : List Int) (m : List (Int × Int)) (s : Int) : Option Int := if 0 ≤ homeN h s then some (homeN h s) else lastP m s
def wrChk (v : UntN) (h behind : List Int) (x : InsN) (s : Int) : Option Int := if 0 ≤ homeN h s then some (homeN h s) else if (inN x.a 0 (v.slots - 1) && !takenB h x.a behind) = true then some x.a else none
def rdOk (h : List Int) (m : List (Int × Int)) (x : InsN) : Bool := (readsL x).all fun s => (rdChk h m s).isSome
def insOne (u v : UntN) (h at' : List Int) (m : List (Int × Int)) (behind : List Int) (frm i a : Nat) : Option Nat :=
  match v.code[a]? with
  | none => none
  | some x =>
    if (i = frm ∨ at'.getD i 0 = (a : Int)) ∧ rdOk h m (u.code.getD i ins0) = true ∧ (0 ≤ writesI (u.code.getD i ins0) → (wrChk v h behind x (writesI (u.code.getD i ins0))).isSome = true) ∧
      x = movI at' (replI (u.code.getD i ins0) (fun s => (rdChk h m s).getD 0) (fun s => (wrChk v h behind x s).getD 0)) then some (a + 1) else none
def insGo (u v : UntN) (h at' : List Int) (m : List (Int × Int)) (behind : List Int) (frm : Nat) : Nat → Nat → Option Nat
  | 0, a => some a
  | n + 1, a => (insGo u v h at' m behind frm n a).bind fun a => insOne u v h at' m behind frm (frm + n) a
def grpChk (u v : UntN) (live : List (List Int)) (h at' : List Int) (a : Nat) (g : GrpN) : Option Nat :=
  if at'.getD g.frm 0 = (a : Int) then
    (ldGo v h g.reads (grpBusy u live g) (v.code.length + 1) a [] []).bind fun lm =>
    (insGo u v h at' lm.2 (grpBehind u live g) g.frm (g.til + 1 - g.frm) lm.1).bind fun b =>
    if 0 ≤ g.wr ∧ homeN h g.wr ≤ -2 then nxtI v b (storeI (-2 - homeN h g.wr) ((v.code.getD (b - 1) ins0).a)) else some b
  else none
def grpsChk (u v : UntN) (live : List (List Int)) (h at' : List Int) : List GrpN → Nat → Option Nat
  | [], a => some a
  | g :: l, a => (grpChk u v live h at' a g).bind (grpsChk u v live h at' l)
def grdsB (u v : UntN) (at' : List Int) : Bool := decide (v.guards = u.guards.map (grdTo u at' v.code.length))
def standB (u v : UntN) (h at' : List Int) : Bool :=
  homedB u v h at' && (((begL v h u.args.toNat).bind (grpsChk u v (liveL u) h at' (groupsL u))) == some v.code.length) && grdsB u v at'
def chkRegs (u v : UntN) (h at' : List Int) : Int := if writB u = true then (if standB u v h at' = true then 0 else 11) else 1
end Go.Proofs.YtgalekifgnecjaaGreat
