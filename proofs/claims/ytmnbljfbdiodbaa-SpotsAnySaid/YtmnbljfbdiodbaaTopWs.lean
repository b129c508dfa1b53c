/- What is reckoned outright: the example that each law begins with. -/
import Derived.Test.YtmnbljfbdiodbaaAbsGo
import Derived.Test.YtmnbljfbdiodbaaTyTrys
import Derived.Test.YtmnbljfbdiodbaaDrTrys
import Derived.Test.YtmnbljfbdiodbaaAbsZ
import Derived.Test.YtmnbljfbdiodbaaTopGs
import Derived.Test.YtmnbljfbdiodbaaTopA
import Derived.Test.YtmnbljfbdiodbaaSpKs
import Derived.Test.YtmnbljfbdiodbaaAbsW
namespace Go.Abs
open Go.Proofs Go.RowKit
set_option linter.unusedVariables false
set_option linter.unusedSimpArgs false
set_option maxRecDepth 100000
theorem names_all : (Try.prog.funcs.toList.all fun fn => !(fn.name == "runtime.NumGoroutine")) = true := by kernel_rfl
theorem names_ok (f : FuncId) (fn : Func) (h : Try.prog.funcs[f]? = some fn) : (fn.name == "runtime.NumGoroutine") = false := by
 have h1 := List.all_eq_true.1 names_all fn (by
  have : Try.prog.funcs.toList[f]? = some fn := by simpa using h
  exact List.mem_of_getElem? this)
 simpa using h1
def hooks : List (FuncId × Hook) := []
theorem hooks_ok (f : FuncId) (k : Hook) (h : extTab hooks f = some k) (args : List AV) (hp : List Blk) (o : AOut) (h' : List Blk) (e : k args hp = some (o,h')) : Ok Try.prog f args hp o h' := by
 simp [hooks,extTab] at h
def exts : List (FuncId × Ext) := [(83,.idxByte)]
theorem exts_ok (f : FuncId) (x : Ext) (h : extTab exts f = some x) : ExtOk Try.prog f x := by
 have step : ∀ {g : FuncId} {y : Ext} {l : List (FuncId × Ext)},extTab ((g,y) :: l) f = some x → (f = g ∧ y = x) ∨ extTab l f = some x := by
  intro g y l h
  unfold extTab at h
  split at h
  ·rename_i hf
   exact .inl ⟨Nat.eq_of_beq_eq_true hf,by cases h; rfl⟩
  ·exact .inr h
 rcases step h with ⟨rfl,rfl⟩ | h
 ·exact ⟨_,_,Try.func83,by decide +kernel,rfl,rfl,rfl,rfl⟩
 ·simp [extTab] at h
/-- What a run comes to is a contract of this program's. -/
theorem reckoned {n lf : Nat} {f : FuncId} {args : List AV} {h : List Blk} {o : AOut} {h' : List Blk} (e : goFn Try.prog exts hooks lf n f args h = some (o,h')) : Ok Try.prog f args h o h' :=
 goFn_ok mix names_ok exts_ok hooks_ok n f args h o h' e
end Go.Abs
/- Words: bytes that stand in a text; letters, blanks. -/
namespace Go.Abs
open Go.Proofs
set_option linter.unusedVariables false
set_option linter.unusedSimpArgs false
set_option maxRecDepth 100000
set_option maxHeartbeats 1000000
def isB (o : Option (AOut × List Blk)) (b : Bool) : Bool := match o with
 | some (.ret (.fv (.bool c)),[]) => c == b
 | _ => false
theorem isB_eq {o : Option (AOut × List Blk)} {b : Bool} (h : isB o b = true) : o = some (.ret (.fv (.bool b)),[]) := by
 unfold isB at h
 split at h
 ·simp at h; subst h; rfl
 ·cases h
/-- A function of one byte, tried at each. -/
theorem of_bytes {f : FuncId} {r : UInt8 → Bool} (h : ((List.range 256).all fun n => isB (goFn Try.prog exts hooks 1000 60 f [.fv (.int .u8 (n : Int))] []) (r (UInt8.ofNat n))) = true) (c : UInt8) :
  Ok Try.prog f [.fv (.int .u8 (c.toNat : Int))] [] (.ret (.fv (.bool (r c)))) [] := by
 have h1 := List.all_eq_true.1 h c.toNat (List.mem_range.2 (UInt8.toNat_lt c))
 have h2 := isB_eq h1
 rw [show UInt8.ofNat c.toNat = c from by simp] at h2
 exact reckoned h2
theorem ok79 (s : Bs) (c : UInt8) : Ok Try.prog 79 [.fv (.str s),.fv (.int .u8 (c.toNat : Int))] [] (.ret (.fv (.int .i64 (idxB c.toNat s 0)))) [] := by
 refine ok_start (k := 6) (n0 := 0) (rs := [.tmp 4]) mix Try.func79 rfl rfl rfl rfl rfl rfl rfl ?_
 simp -implicitDefEqProofs only [evx,evy,ofValue,ofCell,List.range,List.range.loop,Array.size,Nat.reduceAdd,Nat.reduceSub,Nat.reduceEqDiff,List.replicate,if_true,if_false,↓reduceIte,reduceCtorEq,elB,evParts,Int.reduceToNat,Int.reduceLE,Int.reduceLT,Int.reduceEq,Nat.reduceMul,Nat.reduceLeDiff,Nat.reduceLT,ty3,ty4,ty9,ty5]
 refine callK_ret _ _ _ _ (ext_call (exts_ok 83 .idxByte rfl) (v := .fv (.int .i64 (idxB c.toNat s 0))) (h' := []) (W := []) ?_) (ok_nil _ _) ?_
 ·have := UInt8.toNat_lt c
  simp only [extF]
  rw [if_pos (by omega)]
  simp
 simp -implicitDefEqProofs only [evx,evy,ofValue,ofCell,List.range,List.range.loop,Array.size,Nat.reduceAdd,Nat.reduceSub,Nat.reduceEqDiff,List.replicate,if_true,if_false,↓reduceIte,reduceCtorEq,elB,evParts,Int.reduceToNat,Int.reduceLE,Int.reduceLT,Int.reduceEq,Nat.reduceMul,Nat.reduceLeDiff,Nat.reduceLT,ty3,ty4,ty9,ty5]
 exact le_flat rfl
theorem ok72 (s : Bs) (c : UInt8) : Ok Try.prog 72 [.fv (.str s),.fv (.int .u8 (c.toNat : Int))] [] (.ret (.fv (.int .i64 (idxB c.toNat s 0)))) [] := by
 refine ok_start (k := 6) (n0 := 0) (rs := [.tmp 4]) mix Try.func72 rfl rfl rfl rfl rfl rfl rfl ?_
 simp -implicitDefEqProofs only [evx,evy,ofValue,ofCell,List.range,List.range.loop,Array.size,Nat.reduceAdd,Nat.reduceSub,Nat.reduceEqDiff,List.replicate,if_true,if_false,↓reduceIte,reduceCtorEq,elB,evParts,Int.reduceToNat,Int.reduceLE,Int.reduceLT,Int.reduceEq,Nat.reduceMul,Nat.reduceLeDiff,Nat.reduceLT,ty3,ty4,ty9,ty5]
 refine callK_ret _ _ _ _ (call_pure (ok79 s c) (fun _ => rfl) (fun _ => rfl)) (ok_nil _ _) ?_
 simp -implicitDefEqProofs only [evx,evy,ofValue,ofCell,List.range,List.range.loop,Array.size,Nat.reduceAdd,Nat.reduceSub,Nat.reduceEqDiff,List.replicate,if_true,if_false,↓reduceIte,reduceCtorEq,elB,evParts,Int.reduceToNat,Int.reduceLE,Int.reduceLT,Int.reduceEq,Nat.reduceMul,Nat.reduceLeDiff,Nat.reduceLT,ty3,ty4,ty9,ty5]
 exact le_flat rfl
theorem drop_cons {s : Bs} {n : Nat} (h : n < s.length) : s.drop n = s[n] :: s.drop (n + 1) := List.drop_eq_getElem_cons h
theorem idx_str {s : Bs} {n : Nat} (h : n < s.length) : s[n]? = some s[n] := List.getElem?_eq_getElem h
theorem blank_ix (c : UInt8) : (0 ≤ idxB c.toNat [9,10,13,32] 0) = (isBl c = true) := by
 have h : ∀ n,n < 256 → decide (0 ≤ idxB n [9,10,13,32] 0) = (n == 9 || n == 10 || n == 13 || n == 32) := fun n hn => by
  have : ((List.range 256).all fun n => decide (0 ≤ idxB n [9,10,13,32] 0) == (n == 9 || n == 10 || n == 13 || n == 32)) = true := by kernel_rfl
  simpa using List.all_eq_true.1 this n (List.mem_range.2 hn)
 have := h c.toNat (UInt8.toNat_lt c)
 unfold isBl
 rw [← this]
 simp
end Go.Abs
/- Words: a name, a rule, a sign ahead. -/
namespace Go.Abs
open Go.Proofs
set_option linter.unusedVariables false
set_option linter.unusedSimpArgs false
set_option maxRecDepth 100000
set_option maxHeartbeats 1000000
def nmG (n : Nat) (s : Bs) : Nat := if n = 0 then nameLen s else ((s.drop n).takeWhile fun c => letterB c || digitB c).length
theorem nm_yes {s : Bs} {n : Nat} (h : n < s.length) (hc : letterB s[n] = true ∨ (0 < n ∧ digitB s[n] = true)) (hi : nameLen s = n + nmG n s) : nameLen s = n + 1 + nmG (n + 1) s := by
 have hP : (letterB s[n] || digitB s[n]) = true := by
  rcases hc with hc | hc
  ·simp [hc]
  ·simp [hc.2]
 rw [hi]
 unfold nmG
 rw [if_neg (by omega : ¬ n + 1 = 0)]
 by_cases h0 : n = 0
 ·subst h0
  rw [if_pos rfl]
  rcases hc with hc | hc
  ·have e : s = s[0] :: s.drop 1 := by have := drop_cons h; simpa using this
   have e2 : nameLen s = nameLen (s[0] :: s.drop 1) := by rw [← e]
   simp only [Nat.zero_add]
   rw [e2,nameLen,if_pos hc]; omega
  ·omega
 ·rw [if_neg h0,drop_cons h,List.takeWhile_cons,if_pos hP]
  simp only [List.length_cons]; omega
theorem nm_no {s : Bs} {n : Nat} (h : n < s.length) (hl : letterB s[n] = false) (hc : 0 < n → digitB s[n] = false) (hi : nameLen s = n + nmG n s) : nameLen s = n := by
 by_cases h0 : n = 0
 ·subst h0
  have e : s = s[0] :: s.drop 1 := by have := drop_cons h; simpa using this
  have e2 : nameLen s = nameLen (s[0] :: s.drop 1) := by rw [← e]
  rw [e2,nameLen,if_neg (by simp [hl])]
 ·rw [hi]
  unfold nmG
  rw [if_neg h0,drop_cons h,List.takeWhile_cons,if_neg (by simp [hl,hc (by omega)])]
  rfl
theorem nm_end {s : Bs} (hi : nameLen s = s.length + nmG s.length s) : nameLen s = s.length := by
 have := nameLen_le s
 omega
theorem ruleG_cons (c : UInt8) (r : Bs) (n : Nat) : ruleG (c :: r) n = if c.toNat == 10 then 0 else if c.toNat == 47 then n + 1 else if c.toNat == 92 then (match r with
   | [] => 0
   | d :: r' => if d.toNat == 10 then 0 else ruleG r' (n + 2)) else ruleG r (n + 1) := by
 rw [ruleG.eq_def]
 cases r <;> rfl
theorem ruleG_nil (n : Nat) : ruleG [] n = 0 := by
 rw [ruleG.eq_def]
theorem sign_ix (c : UInt8) : (idxB c.toNat [58,59,124,37] 0 < 0) = ((c.toNat == 58 || c.toNat == 59 || c.toNat == 124 || c.toNat == 37) = false) := by
 have h : ∀ n,n < 256 → decide (idxB n [58,59,124,37] 0 < 0) = !(n == 58 || n == 59 || n == 124 || n == 37) := fun n hn => by
  have : ((List.range 256).all fun n => decide (idxB n [58,59,124,37] 0 < 0) == !(n == 58 || n == 59 || n == 124 || n == 37)) = true := by kernel_rfl
  simpa using List.all_eq_true.1 this n (List.mem_range.2 hn)
 have := h c.toNat (UInt8.toNat_lt c)
 generalize (c.toNat == 58 || c.toNat == 59 || c.toNat == 124 || c.toNat == 37) = b at this
 cases b <;> simpa using this
end Go.Abs
/- A text's words. -/
namespace Go.Abs
open Go.Proofs
set_option linter.unusedVariables false
set_option linter.unusedSimpArgs false
set_option maxRecDepth 100000
set_option maxHeartbeats 1000000
theorem isAggF (a b : Array TypeId) (c : Bool) (n m : Nat) (z : Option (List FV)) : TI.isAgg ⟨.func a b c,n,m,z⟩ = false := rfl
theorem le_tup3 {id es off len : Nat} {h : List Blk} {rows xs : List (List FV)} {x y : FV} (hb : h[id]? = some (.plain es rows)) (hl : off + len ≤ rows.length) (hx : (rows.drop off).take len = xs) :
  Le 0 { t := [.tuple [.ref id es off len,.fv x,.fv y]],h := h,d := [] } { t := [.tuple [.fv (.lst es xs),.fv x,.fv y]],h := [],d := [] } := by
 subst hx
 refine le_to [] [id] rfl List.nodup_nil (fun i hi => by simp at hi) (fun i _ hi => by simp at hi) (fun i hi => by simp at hi; subst hi; exact ⟨es,rows,hb⟩) ?_
 simp [subSt,subAny,subA,subL,mkSub,idx,hb,hl]
theorem cellsA_func (f : FuncId) (caps : List AV) : cellsA (.func f caps) = some [.func f caps] := rfl
def wrow (k a : Int) (s : Bs) : List FV := [.int .i64 k,.int .i64 a,.str s]
theorem bsE_w (b : Nat) (dd : TypeDesc) (z1 z2 z3 : FV) (x y z : FV) (h : List Blk) : bsE (some ⟨dd,3,b,some [z1,z2,z3]⟩) 1 h (some [(0,.agg [.fv x,.fv y,.fv z])]) = some (.ref h.length 3 0 1,h ++ [.plain 3 [[x,y,z]]],[]) :=
 bsE_r1 b dd 3 [z1,z2,z3] [x,y,z] h rfl (by omega) (by omega) rfl
def allOut : Option (List Wd) × Nat → AOut
 | (some ws,_) => .ret (.tuple [.fv (.lst 3 (ws.map Wd.row)),.fv (.int .i64 0),.fv (.int .i64 0)])
 | (none,a) => .ret (.tuple [.fv .nils,.fv (.int .i64 a),.fv (.int .i64 1)])
theorem ruleG_ge : ∀ (s : Bs) (n : Nat),ruleG s n ≠ 0 → n + 1 ≤ ruleG s n
 | [],n,h => absurd (ruleG_nil n) h
 | c :: r,n,h => by
  rw [ruleG_cons] at h ⊢
  split
  ·rename_i h1; rw [if_pos h1] at h; omega
  ·rename_i h1
   rw [if_neg h1] at h
   split
   ·omega
   ·rename_i h2
    rw [if_neg h2] at h
    split
    ·rename_i h3
     rw [if_pos h3] at h
     cases r with
     | nil => simp at h
     | cons d r =>
      simp only at h ⊢
      split
      ·rename_i h4; rw [if_pos h4] at h; omega
      ·rename_i h4
       rw [if_neg h4] at h
       have := ruleG_ge r (n + 2) h
       omega
    ·rename_i h3
     rw [if_neg h3] at h
     have := ruleG_ge r (n + 1) h
     omega
theorem ruleN_two {s : Bs} (h : ruleN s ≠ 0) : 2 ≤ ruleN s := by
 cases s with
 | nil => simp [ruleN] at h
 | cons c r =>
  unfold ruleN at h ⊢
  simp only at h ⊢
  split
  ·rename_i h1; rw [if_pos h1] at h; exact ruleG_ge r 1 h
  ·rename_i h1; rw [if_neg h1] at h; omega
theorem wd_row1 (s : Bs) (a n : Nat) : (wordAt s a 1 n).row = [.int .i64 1,.int .i64 a,.str ((s.drop a).take n)] := rfl
theorem wd_row3 (s : Bs) (a n : Nat) : (wordAt s a 3 n).row = [.int .i64 3,.int .i64 a,.str ((s.drop a).take n)] := rfl
theorem wd_row2 (s : Bs) (a n : Nat) : (wordAt s a 2 n).row = [.int .i64 2,.int .i64 a,.str ((((s.drop a).take n).drop 1).take (n - 2))] := rfl
theorem mid_text (t : Bs) (n : Nat) (h : 2 ≤ n) : (t.take (n - 1)).drop 1 = (t.drop 1).take (n - 2) := by
 rw [show n - 1 = 1 + (n - 2) from by omega]
 rw [List.drop_take]
 congr 1
 omega
theorem c03 : ((0 : Int) < ((3 : Nat) : Int)) = True := by simp
theorem c13 : ((1 : Int) < ((3 : Nat) : Int)) = True := by simp
theorem c23 : ((2 : Int) < ((3 : Nat) : Int)) = True := by simp
theorem w01 : IntKind.wrap .i64 ((0 : Int) + 1) = 1 := by decide
theorem w12 : IntKind.wrap .i64 ((1 : Int) + 1) = 2 := by decide
theorem w23 : IntKind.wrap .i64 ((2 : Int) + 1) = 3 := by decide
theorem cut_text (s : Bs) (a n : Nat) : (s.take (a + n)).drop a = (s.drop a).take n := by
 rw [List.drop_take]
 congr 1
 omega
theorem allG_some {s : Bs} {f at_ k n : Nat} {out : List Wd} (h : at_ < s.length) (hc : cutW (s.drop at_) = some (k,n)) : allG s (f + 1) at_ out = allG s f (at_ + n + blankN (s.drop (at_ + n))) (out ++ [wordAt s at_ k n]) := by
 rw [allG,if_pos h,hc]
theorem allG_none {s : Bs} {f at_ : Nat} {out : List Wd} (h : at_ < s.length) (hc : cutW (s.drop at_) = none) : allG s (f + 1) at_ out = (none,at_) := by
 rw [allG,if_pos h,hc]
theorem allG_end {s : Bs} {f at_ : Nat} {out : List Wd} (h : ¬ at_ < s.length) : allG s (f + 1) at_ out = (some out,0) := by
 rw [allG,if_neg h]
theorem wsum (a n : Nat) (h : a + n < 4611686018427387904) : IntKind.wrap .i64 ((a : Int) + (n : Int)) = ((a + n : Nat) : Int) := wrap_small (by omega) (by omega)
theorem wpred (n : Nat) (h : n < 4611686018427387904) (h1 : 0 < n) : IntKind.wrap .i64 ((n : Int) - 1) = ((n - 1 : Nat) : Int) := by
 rw [wrap_small (by omega) (by omega)]; omega
theorem le_true {a b : Nat} (h : a ≤ b) : (a ≤ b) = True := by simpa using h
end Go.Abs
/- May a text be a name: the program's answer and the document's. -/
namespace Go.Abs
open Go.Proofs
set_option linter.unusedVariables false
set_option linter.unusedSimpArgs false
set_option maxRecDepth 100000
set_option maxHeartbeats 1000000
theorem eql_str {P : Program} {T : TypeId} {one : Bool} (x y : List UInt8) : binA P .eql T one (.fv (.str x)) (.fv (.str y)) = some (.fv (.bool (x == y))) := rfl
def ixS (l : List Bs) (x : Bs) : Int := if x ∈ l then (l.idxOf x : Int) else -1
theorem ixS_at {l : List Bs} {x : Bs} {i : Nat} (hi : i < l.length) (hno : x ∉ l.take i) (he : l[i] = x) : ixS l x = i := by
 have hm : x ∈ l := he ▸ List.getElem_mem hi
 unfold ixS
 rw [if_pos hm]
 have h1 : l = l.take i ++ l[i] :: l.drop (i + 1) := by rw [← List.drop_eq_getElem_cons hi,List.take_append_drop]
 rw [h1,List.idxOf_append,if_neg hno,he,List.idxOf_cons_self,List.length_take]
 omega
theorem bsE_6 (b : Nat) (dd : TypeDesc) (zz x1 x2 x3 x4 x5 x6 : FV) (h : List Blk) : bsE (some ⟨dd,1,b,some [zz]⟩) 6 h (some [(0,.fv x1),(1,.fv x2),(2,.fv x3),(3,.fv x4),(4,.fv x5),(5,.fv x6)]) = some (.ref h.length 1 0 6,h ++ [.plain 1 [[x1],[x2],[x3],[x4],[x5],[x6]]],[]) :=
 bsE_ones b dd zz 6 h [x1,x2,x3,x4,x5,x6] _ rfl (by omega) rfl
theorem named_bad {s : Bs} {i : Nat} (hi : i < s.length) (hl : letterB s[i] = false) (hd : i = 0 ∨ digitB s[i] = false) : namedB s = false := by
 cases s with
 | nil => simp at hi
 | cons c r =>
  have hm : (letterB c && r.all fun c => letterB c || digitB c) = false := by
   cases i with
   | zero => simp at hl; simp [hl]
   | succ i =>
    rcases hd with hd | hd
    ·omega
    ·have hm : (r.all fun c => letterB c || digitB c) = false := by
      rw [List.all_eq_false]
      refine ⟨r[i]'(by simpa using hi),List.getElem_mem _,?_⟩
      simp at hl hd
      simp [hl,hd]
     rw [hm,Bool.and_false]
  unfold namedB
  simp only [hm,Bool.and_false]
theorem named_good {s : Bs} (h1 : 1 ≤ s.length) (h2 : s.length ≤ 16) (h3 : resB s = false) (h : ∀ k (hk : k < s.length),letterB s[k] = true ∨ (0 < k ∧ digitB s[k] = true)) : namedB s = true := by
 unfold namedB
 rw [h3]
 simp only [Bool.and_eq_true,decide_eq_true_eq,Bool.not_false]
 refine ⟨⟨⟨h1,h2⟩,trivial⟩,?_⟩
 cases s with
 | nil => simp at h1
 | cons c r =>
  simp only [Bool.and_eq_true]
  refine ⟨?_,?_⟩
  ·rcases h 0 (by simp) with h | h
   ·simpa using h
   ·omega
  ·rw [List.all_eq_true]
   intro d hd
   obtain ⟨k,hk,rfl⟩ := List.getElem_of_mem hd
   rcases h (k + 1) (by simpa using hk) with h | h
   ·simp at h; simp [h]
   ·have := h.2; simp at this; simp [this]
end Go.Abs
