/- Plain words on the classic protocol: commands, requests, a line, and what each kind of line asks for. No condition. -/
import Derived.Test.YtnlabbclmngphaaGreatDoorNumsA
namespace Go.Proofs.YtnlabbclmngphaaGreatDoor

structure Cmd where
  op : Int := 0
  mode : Int := 0
  key : List UInt8 := []
  value : List UInt8 := []
  flags : Int := 0
  exp : Int := 0
  hasExp : Bool := false
  cas : Int := 0
  hasCas : Bool := false
  delta : Int := 0
  init : Int := 0
  down : Bool := false
  vivify : Bool := false
  vive : Int := 0
  recache : Int := 0
  invalidate : Bool := false

structure Req where
  kind : Int := 0
  cmds : List Cmd := []
  quiet : Bool := false
  tokens : Bool := false
  reply : List UInt8 := []
  arg : List UInt8 := []
  skip : Int := 0
  close : Bool := false
  meta_ : List UInt8 := []
  flags : List (List UInt8) := []
  word : List UInt8 := []

structure Line where
  name : List UInt8
  w : List (List UInt8)
  behind : List UInt8
  used : Int
  quiet : Bool

def eError : List UInt8 := [69, 82, 82, 79, 82]
def eFormat : List UInt8 := [67, 76, 73, 69, 78, 84, 95, 69, 82, 82, 79, 82, 32, 98, 97, 100, 32, 99, 111, 109, 109, 97, 110, 100, 32, 108, 105, 110, 101, 32, 102, 111, 114, 109, 97, 116]
def eExptime : List UInt8 := [67, 76, 73, 69, 78, 84, 95, 69, 82, 82, 79, 82, 32, 105, 110, 118, 97, 108, 105, 100, 32, 101, 120, 112, 116, 105, 109, 101, 32, 97, 114, 103, 117, 109, 101, 110, 116]
def eDelta : List UInt8 := [67, 76, 73, 69, 78, 84, 95, 69, 82, 82, 79, 82, 32, 105, 110, 118, 97, 108, 105, 100, 32, 110, 117, 109, 101, 114, 105, 99, 32, 100, 101, 108, 116, 97, 32, 97, 114, 103, 117, 109, 101, 110, 116]
def eLarge : List UInt8 := [83, 69, 82, 86, 69, 82, 95, 69, 82, 82, 79, 82, 32, 111, 98, 106, 101, 99, 116, 32, 116, 111, 111, 32, 108, 97, 114, 103, 101, 32, 102, 111, 114, 32, 99, 97, 99, 104, 101]
def eChunk : List UInt8 := [67, 76, 73, 69, 78, 84, 95, 69, 82, 82, 79, 82, 32, 98, 97, 100, 32, 100, 97, 116, 97, 32, 99, 104, 117, 110, 107]
def eLong : List UInt8 := [67, 76, 73, 69, 78, 84, 95, 69, 82, 82, 79, 82, 32, 108, 105, 110, 101, 32, 116, 111, 111, 32, 108, 111, 110, 103]
def noreply : List UInt8 := [110, 111, 114, 101, 112, 108, 121]

/-- A request that is none. -/
def badReq (s : List UInt8) : Req := { kind := 2, reply := s }

/-- noreply taken off. -/
def Line.off (l : Line) : Line := if l.w.getLast? = some noreply then { l with w := l.w.dropLast, quiet := true } else l
/-- The words' count is from lo to hi. -/
def Line.counts (l : Line) (lo hi : Int) : Bool := decide (lo ≤ (l.w.length : Int)) && decide ((l.w.length : Int) ≤ hi)
def Line.at (l : Line) (i : Nat) : List UInt8 := l.w.getD i []
/-- A request of commands. -/
def Line.req (l : Line) (cs : List Cmd) : Req := { kind := 1, cmds := cs.map fun c => { c with recache := -1 }, quiet := l.quiet }

/-- get, gets, gat, gats. -/
def Line.gat (l : Line) : Bool := Lib.hasPrefix l.name [103, 97, 116]
def Line.gets (keys : List (List UInt8)) (l : Line) (of : Cmd) : Except (List UInt8) Req :=
  if keys = [] then .error eError
  else if keys.all isKey = true then .ok { l.req (keys.map fun k => { of with key := k }) with tokens := Lib.hasSuffix l.name [115] }
  else .error eFormat
def Line.get (l : Line) : Except (List UInt8) Req :=
  if l.gat = true then
    if l.counts 2 l.w.length = true then
      if (psec (l.at 0)).2 = true then Line.gets l.w.tail l { op := 1, exp := (psec (l.at 0)).1, hasExp := true } else .error eExptime
    else .error eError
  else Line.gets l.w l { op := 1 }

def modeNames : List (List UInt8) := [[115, 101, 116], [97, 100, 100], [114, 101, 112, 108, 97, 99, 101], [97, 112, 112, 101, 110, 100], [112, 114, 101, 112, 101, 110, 100]]
/-- The place of a name among those that store, or 0. -/
def modeOf (name : List UInt8) : Int := (modeNames.idxOf? name).getD 0
def nCas : List UInt8 := [99, 97, 115]

/-- What a store comes to: a fault; or a request, whether its data are not all there, and how much of what stands behind it has. -/
def Line.storeCmd (l : Line) : Cmd := { op := 2, mode := modeOf l.name, key := l.at 0, flags := (((pnum (l.at 1)).getD 0 : Nat) : Int) % 4294967296, exp := (psec (l.at 2)).1, hasCas := decide (l.name = nCas), cas := if l.name = nCas then ((pnum (l.at 4)).getD 0 : Nat) else 0 }
def Line.store (l0 : Line) : Except (List UInt8) (Req × Bool × Int) :=
  let l := l0.off
  let n := (pnum (l.at 3)).getD 0
  if l.counts (if l.name = nCas then 5 else 4) (if l.name = nCas then 5 else 4) = true then
    if (pnum (l.at 3)).isSome = true ∧ n ≤ 1073741824 then
      if isKey (l.at 0) = false ∨ (pnum (l.at 1)).isSome = false ∨ 4294967295 < (pnum (l.at 1)).getD 0 ∨ (psec (l.at 2)).2 = false ∨ (l.name = nCas ∧ (pnum (l.at 4)).isSome = false) then
        .ok ({ badReq eFormat with skip := n + 2 }, false, l.used)
      else if 65536 < n then .ok ({ badReq eLarge with skip := n + 2 }, false, l.used)
      else if l.behind.length < n + 2 then .ok ({}, true, l.used)
      else if Lib.hasSuffix (l.behind.take (n + 2)) [13, 10] = true then .ok (l.req [{ l.storeCmd with value := Lib.trimSuffix (l.behind.take (n + 2)) [13, 10] }], false, n + 2)
      else .ok (badReq eChunk, false, n + 2)
    else .error eFormat
  else .error eError

def nIncr : List UInt8 := [105, 110, 99, 114]
def nDecr : List UInt8 := [100, 101, 99, 114]
def nTouch : List UInt8 := [116, 111, 117, 99, 104]
def nDelete : List UInt8 := [100, 101, 108, 101, 116, 101]
def nFlush : List UInt8 := [102, 108, 117, 115, 104, 95, 97, 108, 108]
def nVerbosity : List UInt8 := [118, 101, 114, 98, 111, 115, 105, 116, 121]
def nVersion : List UInt8 := [118, 101, 114, 115, 105, 111, 110]
def nQuit : List UInt8 := [113, 117, 105, 116]
def nStats : List UInt8 := [115, 116, 97, 116, 115]

/-- The requests of a line alone. -/
def Line.plain (l0 : Line) : Except (List UInt8) Req :=
  let l := l0.off
  if l0.name = nIncr ∨ l0.name = nDecr then
    if l.counts 2 2 = true then
      if isKey (l.at 0) = true then
        if (pnum (l.at 1)).isSome = true then .ok (l.req [{ op := 3, key := l.at 0, delta := ((pnum (l.at 1)).getD 0 : Nat), down := decide (l.name = nDecr) }]) else .error eDelta
      else .error eFormat
    else .error eError
  else if l0.name = nTouch then
    if l.counts 2 2 = true then
      if isKey (l.at 0) = true then
        if (psec (l.at 1)).2 = true then .ok (l.req [{ op := 4, key := l.at 0, exp := (psec (l.at 1)).1 }]) else .error eExptime
      else .error eFormat
    else .error eError
  else if l0.name = nDelete then
    if l.counts 1 2 = true then
      if isKey (l.at 0) = true then
        if l.w.length = 1 ∨ l.at 1 = [48] then .ok (l.req [{ op := 5, key := l.at 0 }]) else .error eFormat
      else .error eFormat
    else .error eError
  else if l0.name = nFlush then
    if l.counts 0 1 = true then
      if l.w.length = 1 then
        if (psec (l.at 0)).2 = true then .ok (l.req [{ op := 6, exp := (psec (l.at 0)).1 }]) else .error eExptime
      else .ok (l.req [{ op := 6 }])
    else .error eError
  else if l0.name = nVerbosity then
    if l.counts 1 1 = true then .ok { kind := 4, quiet := l.quiet } else .error eError
  else if l0.name = nVersion then
    if l0.counts 0 0 = true then .ok { kind := 3 } else .error eError
  else if l0.name = nQuit then
    if l0.counts 0 0 = true then .ok { kind := 6, close := true } else .error eError
  else if l0.name = nStats then
    if l0.counts 0 1 = true then .ok { kind := 5, arg := l0.at 0 } else .error eError
  else .error eError

def getNames : List (List UInt8) := [[103, 101, 116], [103, 101, 116, 115], [103, 97, 116], [103, 97, 116, 115]]
def storeNames : List (List UInt8) := [[115, 101, 116], [97, 100, 100], [114, 101, 112, 108, 97, 99, 101], [97, 112, 112, 101, 110, 100], [112, 114, 101, 112, 101, 110, 100], nCas]
/-- A line is read: the request, whether more is needed, how much of what stands behind is used. -/
def Line.read (l : Line) : Req × Bool × Int :=
  if l.name ∈ getNames then (match l.get with | .ok r => (r, false, l.used) | .error f => (badReq f, false, l.used))
  else if l.name ∈ storeNames then (match l.store with | .ok x => x | .error f => (badReq f, false, l.used))
  else (match l.plain with | .ok r => (r, false, l.used) | .error f => (badReq f, false, l.used))

/-- text.Parse. -/
def tparse (b : List UInt8) : Req × Int :=
  let t := b.take 2048
  if 10 ∈ t then
    let n := (ahead 10 t).length + 1
    let ws := wordsOf (lineOf t)
    match ws with
    | [] => (badReq eError, n)
    | name :: w =>
      let x := Line.read { name := name, w := w, behind := b.drop n, used := 0, quiet := false }
      if x.2.1 = true then ({}, 0) else (x.1, n + x.2.2)
  else if b.length < 2048 then ({}, 0)
  else ({ badReq eLong with close := true }, 2048)
end Go.Proofs.YtnlabbclmngphaaGreatDoor
