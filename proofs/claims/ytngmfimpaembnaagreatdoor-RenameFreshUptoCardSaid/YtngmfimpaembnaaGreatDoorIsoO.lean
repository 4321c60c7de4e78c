/- The abstract layer, part O: the order of words and of trees, as plain functions. -/
import Derived.Test.YtngmfimpaembnaaGreatDoorIsoN
namespace Go.Iso
open Go Go.RowKit
def sgn (b : Bool) : Int := if b then -1 else 1
def cmpDown (xs ys : List Int) : Nat → Int
  | 0 => 0
  | k + 1 => if xs.getD k 0 = ys.getD k 0 then cmpDown xs ys k else sgn (decide (xs.getD k 0 < ys.getD k 0))
def cmpWords (xs ys : List Int) : Int := if xs.length = ys.length then cmpDown xs ys xs.length else sgn (decide (xs.length < ys.length))
mutual
def NodeA.cmp : NodeA → NodeA → Int
  | .mk o n r ks, .mk o' n' r' ks' =>
    if o ≠ o' then sgn (decide (o < o')) else
    if n ≠ n' then sgn (Op.bytesLess n.toList n'.toList) else
    if r.neg ≠ r'.neg then sgn r'.neg else
    if cmpWords r.num r'.num ≠ 0 then cmpWords r.num r'.num else
    if cmpWords r.den r'.den ≠ 0 then cmpWords r.den r'.den else
    if ks.length ≠ ks'.length then sgn (decide (ks.length < ks'.length)) else NodeA.cmpL ks ks'
def NodeA.cmpL : List NodeA → List NodeA → Int
  | x :: xs, y :: ys => if NodeA.cmp x y ≠ 0 then NodeA.cmp x y else NodeA.cmpL xs ys
  | _, _ => 0
end
end Go.Iso
