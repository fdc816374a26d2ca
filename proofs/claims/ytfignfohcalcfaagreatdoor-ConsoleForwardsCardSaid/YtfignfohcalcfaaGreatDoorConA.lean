/- What the console tells, plainly. No function of the program. -/
import Derived.Test.YtfignfohcalcfaaGreatDoorBitX
import Derived.Lib.FieldsP
import Derived.Lib.Split
import Derived.Lib.AtoiAll
import Derived.Lib.ItoaNum
import Derived.Lib.Join
import Derived.Test.YtfignfohcalcfaaGreatDoorNalA
namespace Go.Proofs.YtfignfohcalcfaaGreatDoor
set_option linter.unusedVariables false

def tx (l : List UInt8) : ByteArray := ⟨l.toArray⟩
/-- "error 2700" -/
def badT : ByteArray := tx [101, 114, 114, 111, 114, 32, 50, 55, 48, 48]
def hexD (n : Nat) : UInt8 := if n < 10 then (48 + n).toUInt8 else (87 + n).toUInt8
def hexL (l : List UInt8) : List UInt8 := l.flatMap fun c => [hexD (c.toNat / 16), hexD (c.toNat % 16)]
def noneT : ByteArray := tx [110, 111, 110, 101]
def hexF (s : ByteArray) : ByteArray := if s.size = 0 then noneT else tx (hexL s.data.toList)
def unD (c : UInt8) : Option Nat := if 48 ≤ c.toNat ∧ c.toNat ≤ 57 then some (c.toNat - 48) else if 97 ≤ c.toNat ∧ c.toNat ≤ 102 then some (c.toNat - 87) else none
def unL : List UInt8 → Option (List UInt8)
  | a :: b :: t => match unD a, unD b with
    | some x, some y => (unL t).map ((16 * x + y).toUInt8 :: ·)
    | _, _ => none
  | _ => some []
/-- bytes out of digits, and whether they are such -/
def unF (s : ByteArray) : ByteArray × Bool := if s = noneT then (tx [], true) else match unL s.data.toList with
  | none => (tx [], false)
  | some l => (tx l, decide (s.size ≠ 0) && decide (s.size % 2 = 0))
def numF (w : ByteArray) : Option Int :=
  let d := Lib.trimPrefix w.data.toList [45]
  if d = [] ∨ 10 < d.length then none else if d.all (fun c => decide (48 ≤ c.toNat) && decide (c.toNat ≤ 57)) = true then (match Lib.atoiAll w.data.toList with | .ok v => some v | _ => none) else none
def numsF : List ByteArray → Option (List Int)
  | [] => some []
  | w :: t => match numF w with
    | none => none
    | some x => (numsF t).map (x :: ·)
def itoaF (x : Int) : ByteArray := tx (Lib.itoa x)
/-- "error " and the number -/
def faultF (e : Int) : ByteArray := tx ([101, 114, 114, 111, 114, 32] ++ Lib.itoa e)
def rowF (l : List Int) : ByteArray := tx (Lib.join (l.map Lib.itoa) [32])
def ueF (x : Int) : ByteArray := if 0 ≤ x ∧ x ≤ 2147483646 then hexF (packS (ueL x.toNat)) else faultF 101
def seF (x : Int) : ByteArray := if -1073741823 ≤ x ∧ x ≤ 1073741823 then hexF (packS (seL x)) else faultF 101
def clipN (l x h : Int) : Int := min (max x l) h
/-- an element's kind -/
def kindF (el : Int) : Int := if el < 0 ∨ 20 ≤ el then 0 else [1, 2, 1, 2, 2, 2, 2, 2, 2, 3, 3, 2, 2, 3, 1, 1, 1, 4, 1, 1].getD el.toNat 0
def mayB (k v m : Int) : Bool := if k = 1 then decide (v = 0 ∨ v = 1) else if k = 2 then decide (1 ≤ m ∧ m ≤ 63 ∧ 0 ≤ v ∧ v ≤ m) else if k = 3 then decide (-32767 ≤ v ∧ v ≤ 32767) else if k = 4 then decide (0 ≤ v ∧ v ≤ 65535) else false
def onesL (n lim : Int) : List UInt8 := List.replicate n.toNat 49 ++ (if n < lim then [48] else [])
/-- a tail's ones, and what is left: fuel many steps at most -/
def tailU : Nat → Nat → Nat → List UInt8 × Nat × Nat
  | 0, x, k => ([], x, k)
  | f + 1, x, k => if 2 ^ k ≤ x then (98 :: (tailU f (x - 2 ^ k) (k + 1)).1, (tailU f (x - 2 ^ k) (k + 1)).2) else ([], x, k)
def tailD (x : Nat) : Nat → List UInt8
  | 0 => []
  | k + 1 => (if x.testBit k = true then 98 else 97) :: tailD x k
def tailL (x k : Nat) : List UInt8 := (tailU 20 x k).1 ++ (97 :: tailD (tailU 20 x k).2.1 (tailU 20 x k).2.2)
def greatL (v own : Int) (k : Nat) : List UInt8 := onesL (min v own) own ++ (if own ≤ v then tailL (v - own).toNat k else [])
def binL (k v m : Int) : List UInt8 := if k = 1 then [(48 + v).toNat.toUInt8] else if k = 2 then onesL v m else if k = 3 then greatL (max v (-v)) 9 3 ++ (if 0 < v then [97] else if v < 0 then [98] else []) else greatL v 14 0
def binF (el v m : Int) : ByteArray := if mayB (kindF el) v m = true then tx (binL (kindF el) v m) else faultF 600
/-- one step of the transform -/
def fwd4 (a b c d : Int) : List Int := [a + d + (b + c), 2 * (a - d) + (b - c), a + d - (b + c), a - d - 2 * (b - c)]
def g16 (l : List Int) (i : Nat) : Int := l.getD i 0
def rowsF (l : List Int) : List Int := (List.range 4).flatMap fun i => fwd4 (g16 l (4 * i)) (g16 l (4 * i + 1)) (g16 l (4 * i + 2)) (g16 l (4 * i + 3))
def colsF (l : List Int) : List Int := (List.range 16).map fun j => g16 (fwd4 (g16 l (j % 4)) (g16 l (4 + j % 4)) (g16 l (8 + j % 4)) (g16 l (12 + j % 4))) (j / 4)
def fwdF (l : List Int) : List Int := colsF (rowsF (l.map (clipN (-1048576) · 1048576)))
def qpT : List Int := [29, 30, 31, 32, 32, 33, 34, 34, 35, 35, 36, 36, 37, 37, 37, 38, 38, 38, 39, 39, 39, 39]
def qpX (a b : Int) : Int := clipN 0 (clipN (-100) a 100 + clipN (-100) b 100) 51
def qpF (a b : Int) : Int := if qpX a b < 30 then qpX a b else qpT.getD (qpX a b - 30).toNat 0
/-- counting by low bits: what comes of it, or none -/
def pocF (msb lsb now bits : Int) : Option (Int × Int) :=
  if bits < 4 ∨ 8 < bits then none else
    let m : Int := 2 ^ bits.toNat
    if lsb < 0 ∨ m ≤ lsb ∨ now < 0 ∨ m ≤ now ∨ msb.tmod m ≠ 0 ∨ 268435456 < msb ∨ msb < -268435456 then none else
      let x := if m / 2 ≤ lsb - now then msb + m else if m / 2 < now - lsb then msb - m else msb
      some (x, x + now)
def medF (a b c : Int) : Int := max (min a b) (min (max a b) c)
/-- which command a word is, and how many numbers it takes -/
inductive Cmd where | ue | se | bins | forward | qp | poc | median
def cmdF (w : ByteArray) : Option Cmd :=
  if w = tx [117, 101] then some .ue else if w = tx [115, 101] then some .se else if w = tx [98, 105, 110, 115] then some .bins else if w = tx [102, 111, 114, 119, 97, 114, 100] then some .forward
  else if w = tx [113, 112] then some .qp else if w = tx [112, 111, 99] then some .poc else if w = tx [109, 101, 100, 105, 97, 110] then some .median else none
def Cmd.many : Cmd → Nat
  | .ue => 1 | .se => 1 | .bins => 3 | .forward => 16 | .qp => 2 | .poc => 4 | .median => 3
def Cmd.run (c : Cmd) (n : List Int) : ByteArray := match c with
  | .ue => ueF (g16 n 0)
  | .se => seF (g16 n 0)
  | .bins => binF (g16 n 0) (g16 n 1) (g16 n 2)
  | .forward => rowF (fwdF n)
  | .qp => rowF [qpF (g16 n 0) (g16 n 1)]
  | .poc => match pocF (g16 n 0) (g16 n 1) (g16 n 2) (g16 n 3) with | none => faultF 1701 | some x => rowF [x.1, x.2]
  | .median => rowF [medF (g16 n 0) (g16 n 1) (g16 n 2)]
/-- what a line's words tell -/
def lineF (ws : List ByteArray) : ByteArray :=
  if ws.headD (tx []) = tx [101, 115, 99, 97, 112, 101] ∧ ws.length = 2 then
    (if (unF (ws.getD 1 (tx []))).2 = true then hexF (txt (esc (bl (unF (ws.getD 1 (tx []))).1))) else badT)
  else match cmdF (ws.headD (tx [])), numsF ws.tail with
    | some c, some n => if n.length = c.many then c.run n else badT
    | _, _ => badT
def blankP (c : Nat) : Bool := c == 32 || c == 9
/-- what a line tells, its LF with it -/
def tellF (s : ByteArray) : List UInt8 := match Lib.goFieldsP blankP s with
  | [] => []
  | w :: t => if w.data.toList.headD 0 = 35 then [] else (lineF (w :: t)).data.toList ++ [10]
def conL (s : ByteArray) : List UInt8 := (Lib.splitB (tx [10]) 0 (Lib.countB s (tx [10])) s).flatMap tellF
/-- what Run answers -/
def conF (s : ByteArray) : ByteArray × Int := if 65536 < s.size then (tx [], 2701) else (tx (conL s), 0)
end Go.Proofs.YtfignfohcalcfaaGreatDoor
