/- The example of the first symbols: its grammar is read. -/
import Derived.Test.YtmnbljfbdiodbaaGreatTyTryzz
import Derived.Test.YtmnbljfbdiodbaaGreatFiXz
import Derived.Test.YtmnbljfbdiodbaaGreatAbsFrz
import Derived.Test.YtmnbljfbdiodbaaGreatTopA
namespace Go.Abs
open Go.Proofs
set_option maxRecDepth 100000
def g15 : Gra := { rules := [⟨[97],[⟨1,0,8589934592,0,0⟩],false⟩,⟨[98],[⟨1,0,17179869184,0,0⟩],false⟩],nonts := [[115],[120]],levels := [⟨0,0⟩,⟨0,0⟩,⟨0,0⟩],prods := [⟨3,[4,1],1⟩,⟨4,[2],2⟩,⟨4,[],0⟩],start := 3 }
theorem piece15 : Ok Tryz.prog 10 [.fv (.str [116,111,107,101,110,32,97,32,47,97,47,59,32,116,111,107,101,110,32,98,32,47,98,47,59,32,115,58,32,120,32,97,59,32,120,58,32,98,32,124,32,59])] [] (.ret (.tuple [g15.av,.fv (.int .i64 0),.fv (.int .i64 0)])) [] :=
 goDeep_ok (fun o h' e => reckoned2 e) (show goDeep Tryz.prog exts hooks2 100000 60 10 [.fv (.str [116,111,107,101,110,32,97,32,47,97,47,59,32,116,111,107,101,110,32,98,32,47,98,47,59,32,115,58,32,120,32,97,59,32,120,58,32,98,32,124,32,59])] (.tuple [g15.av,.fv (.int .i64 0),.fv (.int .i64 0)]) = true by kernel_rfl)
end Go.Abs
/- The example of the first symbols: what begins a text, what vanishes. -/
namespace Go.Abs
open Go.Proofs
set_option maxRecDepth 100000
theorem piece15o : Ok Tryz.prog 11 [g15.av,.fv (.lst 1 [[.int .i64 3]])] [] (.ret (.tuple [.fv (.lst 1 [[.int .i64 1],[.int .i64 2]]),.fv (.bool false)])) [] :=
 goDeep_ok (fun o h' e => reckoned2 e) (show goDeep Tryz.prog exts hooks2 100000 60 11 [g15.av,.fv (.lst 1 [[.int .i64 3]])] (.tuple [.fv (.lst 1 [[.int .i64 1],[.int .i64 2]]),.fv (.bool false)]) = true by kernel_rfl)
theorem piece15v : Ok Tryz.prog 13 [g15.av] [] (.ret (.fv (.lst 1 [[.int .i64 4]]))) [] :=
 goDeep_ok (fun o h' e => reckoned2 e) (show goDeep Tryz.prog exts hooks2 100000 60 13 [g15.av] (.fv (.lst 1 [[.int .i64 4]])) = true by kernel_rfl)
end Go.Abs
