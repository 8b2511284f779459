/- Plain laws on rules and their texts; no program. Conditions: none. -/
import Derived.Test.YtdofpealmngmiaaGreatDoorPure
import Derived.Lib.ItoaNum
import Derived.Lib.Join
namespace Go.Proofs.YtdofpealmngmiaaGreatDoor
open Go.RowKit

/-- A rule: its numbers, the span of its total, the spans of its counts, its coupon. -/
structure Rl where
  num : Int
  lvl : Int
  rank : Int
  group : Int
  kind : Int
  value : Int
  cap : Int
  lo : Int
  hi : Int
  counts : List (Int × Int)
  coupon : Int

/-- a valid span -/
def okSp (a b : Int) : Bool := wi a 0 1000000 && wi b a 1000000
def okCn (c : List (Int × Int)) : Bool := (List.range c.length).all (fun k => okSp (pA c k) (pB c k)) && decide (c.length = 3)
def okGd (r : Rl) : Bool := okSp r.lo r.hi && okCn r.counts && wi r.coupon 0 9
def okVal (k v : Int) : Bool := if k = 1 then wi v 1 1000 else if k = 2 then wi v 1 1000000 else if k = 3 then wi v 2 20 else false
def okRu (r : Rl) : Bool := wi r.num 1 99 && wi r.lvl 0 3 && wi r.rank 0 9 && wi r.group (-1) 2 && wi r.cap 0 1000000 && okGd r && okVal r.kind r.value

/-! ### The text -/
def dec (n : Int) : List UInt8 := Go.Lib.decDigits n.toNat
def spW (a b : Int) : List UInt8 := dec a ++ 45 :: dec b
def kindW (k : Int) : List UInt8 := if k = 1 then [112, 101, 114, 109, 105, 108, 108, 101] else if k = 2 then [97, 109, 111, 117, 110, 116] else [102, 114, 101, 101]
def wLevel : List UInt8 := [108, 101, 118, 101, 108]
def wRank : List UInt8 := [114, 97, 110, 107]
def wGroup : List UInt8 := [103, 114, 111, 117, 112]
def wCap : List UInt8 := [99, 97, 112]
def wTotal : List UInt8 := [116, 111, 116, 97, 108]
def wCount : List UInt8 := [99, 111, 117, 110, 116]
def wCoupon : List UInt8 := [99, 111, 117, 112, 111, 110]

def allSp (a b : Int) : Bool := decide (a = 0) && decide (b = 1000000)
def headW (r : Rl) : List (List UInt8) := [wLevel, dec r.lvl, wRank, dec r.rank, kindW r.kind, dec r.value]
def grpW (r : Rl) : List (List UInt8) := if r.group = -1 then [] else [wGroup, dec r.group]
def capW (r : Rl) : List (List UInt8) := if r.cap = 0 then [] else [wCap, dec r.cap]
def totW (r : Rl) : List (List UInt8) := if allSp r.lo r.hi then [] else [wTotal, spW r.lo r.hi]
def cntW (c : List (Int × Int)) : Nat → List (List UInt8)
  | 0 => []
  | k + 1 => cntW c k ++ (if allSp (pA c k) (pB c k) then [] else [wCount, dec k, spW (pA c k) (pB c k)])
def cpnW (r : Rl) : List (List UInt8) := if r.coupon = 0 then [] else [wCoupon, dec r.coupon]
/-- all words but the first -/
def restW (r : Rl) : List (List UInt8) := headW r ++ grpW r ++ capW r ++ totW r ++ cntW r.counts r.counts.length ++ cpnW r
/-- words, a space ahead of each -/
def tl (ws : List (List UInt8)) : List UInt8 := ws.flatMap fun w => 32 :: w
def textR (r : Rl) : List UInt8 := dec r.num ++ tl (restW r)

theorem tl_nil : tl [] = [] := rfl
theorem tl_append (a b : List (List UInt8)) : tl (a ++ b) = tl a ++ tl b := by simp [tl, List.flatMap_append]
theorem tl_cons (w : List UInt8) (ws : List (List UInt8)) : tl (w :: ws) = 32 :: w ++ tl ws := by simp [tl]
theorem join_tl (x : List UInt8) (r : List (List UInt8)) : Go.Lib.join (x :: r) [32] = x ++ tl r := by
  rw [Go.Lib.join_cons]
  rfl

end Go.Proofs.YtdofpealmngmiaaGreatDoor
