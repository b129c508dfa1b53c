/- A drawn region in which loud operations come in any order, each order by itself. -/
import Derived.Test.YtnhghoonlmoinaaGreatAbsU
namespace Go.Abs
variable [Kn]
set_option linter.unusedSectionVars false
set_option linter.unusedVariables false
set_option linter.unusedSimpArgs false
section
variable {P : Program} {n0 : Nat} {ops : Array Oper}
variable {Q Q' : AEx → St → Prop}
/-- Orders with more than one fork, of two operations each. -/
inductive Ord3 where
 | lin (l : List (Nat × Bool))
 | fork (l : List (Nat × Bool)) (i : Nat) (t : Ord3) (j : Nat) (u : Ord3)
def Ord3.cons (x : Nat × Bool) : Ord3 → Ord3
 | .lin l => .lin (x :: l)
 | .fork l i t j u => .fork (x :: l) i t j u
end
end Go.Abs
/- A drawn region in which up to three loud operations come in any order. -/
namespace Go.Abs
variable [Kn]
set_option linter.unusedSectionVars false
set_option linter.unusedVariables false
set_option linter.unusedSimpArgs false
section
variable {P : Program} {n0 : Nat} {ops : Array Oper}
variable {Q Q' : AEx → St → Prop}
/-- Orders with more than one fork, of two operations each. -/
inductive Ord4 where
 | lin (l : List (Nat × Bool))
 | fork (l : List (Nat × Bool)) (i : Nat) (t : Ord4) (j : Nat) (u : Ord4)
 | fork3 (l : List (Nat × Bool)) (i : Nat) (t : Ord4) (j : Nat) (u : Ord4) (k : Nat) (v : Ord4)
def Ord4.cons (x : Nat × Bool) : Ord4 → Ord4
 | .lin l => .lin (x :: l)
 | .fork l i t j u => .fork (x :: l) i t j u
 | .fork3 l i t j u k v => .fork3 (x :: l) i t j u k v
end
end Go.Abs
