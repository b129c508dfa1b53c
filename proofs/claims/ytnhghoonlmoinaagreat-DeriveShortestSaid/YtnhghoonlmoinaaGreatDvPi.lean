/- The example of derivations: its grammar is read. -/
import Derived.Test.YtnhghoonlmoinaaGreatTyTryzi
import Derived.Test.YtnhghoonlmoinaaGreatTopWi
import Derived.Test.YtnhghoonlmoinaaGreatAbsFrz
import Derived.Test.YtnhghoonlmoinaaGreatTopA
namespace Go.Abs
open Go.Proofs
set_option maxRecDepth 100000
def g21 : Gra := { rules := [⟨[97],[⟨1,0,8589934592,0,0⟩],false⟩,⟨[98],[⟨1,0,17179869184,0,0⟩],false⟩],nonts := [[115]],levels := [⟨0,0⟩,⟨0,0⟩,⟨0,0⟩],prods := [⟨3,[1,3,2],2⟩,⟨3,[],0⟩],start := 3 }
theorem piece21 : Ok Tryz.prog 34 [.fv (.str [116,111,107,101,110,32,97,32,47,97,47,59,32,116,111,107,101,110,32,98,32,47,98,47,59,32,115,58,32,97,32,115,32,98,32,124,32,59])] [] (.ret (.tuple [g21.av,.fv (.int .i64 0),.fv (.int .i64 0)])) [] :=
 goDeep_ok (fun o h' e => reckoned e) (show goDeep Tryz.prog exts hooks 100000 60 34 [.fv (.str [116,111,107,101,110,32,97,32,47,97,47,59,32,116,111,107,101,110,32,98,32,47,98,47,59,32,115,58,32,97,32,115,32,98,32,124,32,59])] (.tuple [g21.av,.fv (.int .i64 0),.fv (.int .i64 0)]) = true by kernel_rfl)
end Go.Abs
