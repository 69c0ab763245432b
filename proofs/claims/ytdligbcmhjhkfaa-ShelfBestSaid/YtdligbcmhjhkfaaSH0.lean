/- Nodes, as they are reckoned with. -/
import Derived.Test.YtdligbcmhjhkfaaK1
import Derived.Test.YtdligbcmhjhkfaaGf

namespace Go.Proofs.Ytdligbcmhjhkfaa
open Go.RowKit
structure ND where
  id : Int
  inc : Int
  ld : Int
  c0 : Int
  c1 : Int
  c2 : Int
  u0 : Int
  u1 : Int
  u2 : Int
  up : Bool
instance : Inhabited ND := ⟨⟨0, 0, 0, 0, 0, 0, 0, 0, 0, false⟩⟩
def encN (n : ND) : List Value := [.int .i64 n.id, .int .i64 n.inc, .int .i64 n.ld, .int .i64 n.c0, .int .i64 n.c1, .int .i64 n.c2, .int .i64 n.u0, .int .i64 n.u1, .int .i64 n.u2, .bool n.up]
theorem encN_len (x : ND) : (encN x).length = 10 := rfl
abbrev ndV (n : ND) : Value := nodeV n.id n.inc n.ld n.c0 n.c1 n.c2 n.u0 n.u1 n.u2 n.up
def tkN (x y z : Int) (n : ND) : Bool := takesB n.c0 n.c1 n.c2 n.u0 n.u1 n.u2 n.up x y z
end Go.Proofs.Ytdligbcmhjhkfaa
