/- The laws of victim as their rows ask them. -/
import Derived.Test.YtcpkbhoocblpjaaV6
import Derived.Deep.RegionWith
namespace Go.Proofs.Ytcpkbhoocblpjaa
open Go.RowKit

theorem picks_walk (w : World) (a : Option Addr) (len cap : Nat) (zs : List Int) (h : IsRow .i64 w a len cap zs) (op : Int) (_hw : (Lit.int .i64 op).wf = true) :
    Calls Try.prog 3 #[.slice a len cap, .int .i64 op] w fun e w' => e = .returned (.bool true) ∧ Below w.heap.size w w' :=
  picks_any a len cap op (zs.take len) h.ints.1 w h.ints.2
theorem worth_walk (w : World) (u : Int) (_hu : (Lit.int .i64 u).wf = true) (s : Int) (_hs : (Lit.int .i64 s).wf = true) :
    Calls Try.prog 4 #[.int .i64 u, .int .i64 s] w fun e w' => e = .returned (.bool true) ∧ Below w.heap.size w w' := worth_any u s w

end Go.Proofs.Ytcpkbhoocblpjaa
