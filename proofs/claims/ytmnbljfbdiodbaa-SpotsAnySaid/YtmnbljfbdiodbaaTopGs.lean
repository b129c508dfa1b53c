/- Names of symbols: the program's and the document's. -/
import Derived.Test.YtmnbljfbdiodbaaTyTrys
import Derived.Test.YtmnbljfbdiodbaaDrTrys
import Derived.Test.YtmnbljfbdiodbaaAbsZ
import Derived.Test.YtmnbljfbdiodbaaTopA
namespace Go.Abs
open Go.Proofs
set_option linter.unusedVariables false
set_option linter.unusedSimpArgs false
set_option maxRecDepth 100000
set_option maxHeartbeats 1000000
theorem wrap_small {n : Int} (h1 : -9223372036854775808 ≤ n) (h2 : n ≤ 9223372036854775807) : IntKind.wrap .i64 n = n := by
 simp only [IntKind.wrap,IntKind.signed,IntKind.bits]
 simp
 omega
theorem wsucc (n : Nat) (h : n < 4611686018427387904) : IntKind.wrap .i64 ((n : Int) + 1) = ((n + 1 : Nat) : Int) := wrap_small (by omega) (by omega)
def isF : AV → Bool
 | .fv _ | .any | .undef => true
 | _ => false
/-- Slots are forgotten; no block is wanted any more. -/
theorem le_none {t t' : List AV} {h : List Blk} (hw : wk t t') (hf : t'.all isF = true) : Le 0 ⟨t,h,[]⟩ ⟨t',[],[]⟩ := by
 refine Le.trans (le_wk hw) (le_to [] [] rfl List.nodup_nil (fun i hi => by simp at hi) (fun i hi => by simp at hi) (fun i hi => by simp at hi) ?_)
 have : t'.map (subAny (mkSub [] [] h)) = t' := by
  rw [List.all_eq_true] at hf
  clear hw
  induction t' with
  | nil => rfl
  | cons x t' ih =>
   rw [List.map_cons,ih fun y hy => hf y (List.mem_cons_of_mem _ hy)]
   have hx := hf x (by simp)
   cases x <;> simp [isF] at hx <;> rfl
 simp only [subSt,this,List.map_nil]
theorem rows_at {α : Type} (f : α → List FV) (l : List α) (i : Nat) (h : i < l.length) : (l.map f)[i]? = some (f l[i]) := by
 rw [List.getElem?_map,List.getElem?_eq_getElem h]; rfl
theorem lt_true {i n : Nat} (h : i < n) : ((i : Int) < (n : Int)) = True := by simp; omega
theorem lt_false {i n : Nat} (h : ¬ i < n) : ((i : Int) < (n : Int)) = False := by simp; omega
/-- Slots are forgotten; of the blocks the first one is wanted alone. -/
def isF1 : AV → Bool
 | .fv _ | .any | .undef => true
 | .ptr 0 _ _ _ => true
 | _ => false
theorem le_one {t t' : List AV} {b : Blk} {h : List Blk} (hw : wk t t') (hf : t'.all isF1 = true) (hb : subBlk (mkSub [0] [] (b :: h)) b = b) : Le 0 ⟨t,b :: h,[]⟩ ⟨t',[b],[]⟩ := by
 refine Le.trans (le_wk hw) (le_to [0] [] rfl (by simp) (fun i hi => by simp at hi; subst hi; simp) (fun i hi => by simp at hi) (fun i hi => by simp at hi) ?_)
 have : t'.map (subAny (mkSub [0] [] (b :: h))) = t' := by
  rw [List.all_eq_true] at hf
  clear hw
  induction t' with
  | nil => rfl
  | cons x t' ih =>
   rw [List.map_cons,ih fun y hy => hf y (List.mem_cons_of_mem _ hy)]
   have hx := hf x (by simp)
   cases x with
   | fv _ => rfl
   | any => rfl
   | undef => rfl
   | ptr id es r off =>
    cases id with
    | zero => rfl
    | succ id => simp [isF1] at hx
   | _ => simp [isF1] at hx
 simp only [subSt,this,List.map_cons,List.map_nil,List.getD_cons_zero,hb]
def Gra.cells (g : Gra) : List AV := [.fv (.lst 3 (g.rules.map Rul.row)),.fv (.lst 1 (g.nonts.map sRow)),.fv (.lst 2 (g.levels.map Lev.row)),.fv (.lst 3 (g.prods.map Prd.row)),.fv (.int .i64 g.start)]
end Go.Abs
