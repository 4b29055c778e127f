import Derived.Test.YtemmhailjfdfdaaGreatFY
import Derived.Test.YtemmhailjfdfdaaGreatFX
import Derived.Test.YtemmhailjfdfdaaGreatProg
namespace Go.Q
open Go Go.Proofs
abbrev J (n:Int):AV:=.lit (.int .i64 n)
abbrev U (n:Int):AV:=.lit (.int .u64 n)
set_option maxRecDepth 10000
set_option maxHeartbeats 2000000
theorem Tryz_mixed:Tryz.prog.follows .mixedOrders = true:=by kernel_rfl
structure api.Array where
  Kind:Int
  Shape:List Int
  Elems:List Int
def api.Array.enc (x:api.Array):AV:=.agg [.lit (.int .i64 x.Kind),.vs 1 (x.Shape.map (eI .i64)),.vs 1 (x.Elems.map (eI .i64))]
structure api.Desc where
  Base:Int
  Extents:List Int
  Strides:List Int
def api.Desc.enc (x:api.Desc):AV:=.agg [.lit (.int .i64 x.Base),.vs 1 (x.Extents.map (eI .i64)),.vs 1 (x.Strides.map (eI .i64))]
structure float.shape where
  p:Int
  w:Int
def float.shape.enc (x:float.shape):AV:=.agg [.lit (.int .i64 x.p),.lit (.int .i64 x.w)]
structure float.number where
  class_:Int
  sign:Int
  m:Int
  e:Int
def float.number.enc (x:float.number):AV:=.agg [.lit (.int .i64 x.class_),.lit (.int .i64 x.sign),.lit (.int .u64 x.m),.lit (.int .i64 x.e)]
structure api.Value where
  Kind:Int
  N:Int
def api.Value.enc (x:api.Value):AV:=.agg [.lit (.int .i64 x.Kind),.lit (.int .i64 x.N)]
end Go.Q
