/- Sorting numbers: the library's contract lifted. -/
import Derived.Test.YtnhghoonlmoinaaGreatTyTryzi
import Derived.Test.YtnhghoonlmoinaaGreatDrTryzi
import Derived.Test.YtnhghoonlmoinaaGreatAbsZ
import Derived.Test.YtnhghoonlmoinaaGreatTopA
import Derived.Test.YtnhghoonlmoinaaGreatTopGi
import Derived.Test.YtnhghoonlmoinaaGreatCkLayi
import Derived.Test.YtnhghoonlmoinaaGreatAbsU
namespace Go.Abs
set_option linter.unusedSectionVars false
variable [Kn]
open Go.Proofs
set_option linter.unusedVariables false
set_option linter.unusedSimpArgs false
set_option maxRecDepth 100000
set_option maxHeartbeats 1000000
theorem heap_sorted (w : World) (n b off : Nat) (d : Array Int) (os : Array Obj) {arr : Array Value} {T : TypeId} {fr : Nat × Nat} (hb : w.heap[b]? = some (.cells arr T fr)) (k : Nat) (hk : k < w.heap.size) :
  (Sort.grow (Sort.putRow (Value.int .i64) (Sort.ahead w n) b off d) os).heap[k]? = if k = b then some (.cells (Sort.putCells (Value.int .i64) off d arr) T fr) else w.heap[k]? := by
 have h1 : (Sort.grow (Sort.putRow (Value.int .i64) (Sort.ahead w n) b off d) os).heap = w.heap.modify b (Sort.onCells (Sort.putCells (Value.int .i64) off d)) ++ os := rfl
 rw [h1,Array.getElem?_append_left (by simpa using hk),Array.getElem?_modify]
 by_cases e : k = b
 ·subst e
  simp [hb,Sort.onCells]
 ·have : ¬ (b = k) := fun h => e h.symm
  simp [e,this]
/-- What a call that turns a row gives back: nothing, or a first part of the row. -/
def RowRes (v : Value) (x : AV) (b off cap n : Nat) : Prop := (v = .tuple #[] ∧ x = .tuple []) ∨ ∃ k,k ≤ n ∧ v = .slice (some ⟨b,off,none⟩) k cap ∧ x = .ref 0 1 0 k
/-- From a library's contract of a call that turns a row of numbers. -/
theorem lift_row {f : FuncId} {fn : Func} (hf : Tryz.prog.funcs[f]? = some fn) (hnm : (fn.name == "runtime.NumGoroutine") = false) (hbd : fn.body.isNone = false) (zs ys : List Int) (hys : ys.length = zs.length) (hne : zs ≠ []) (x : AV)
  (hcall : ∀ (b off cap : Nat) (w : World),Sort.Holds (Value.int .i64) w b off zs.toArray → b < w.heap.size → zs.length ≤ cap → Calls Tryz.prog f #[.slice (some ⟨b,off,none⟩) zs.length cap] w fun e w' =>
   (∃ v,e = .returned v ∧ RowRes v x b off cap zs.length) ∧ ∃ n os,w' = Sort.grow (Sort.putRow (Value.int .i64) (Sort.ahead w n) b off ys.toArray) os) :
  Ok Tryz.prog f [.ref 0 1 0 zs.length] [.plain 1 (ints zs)] (.ret x) [.plain 1 (ints ys)] := by
 have hpos : 0 < zs.length := List.length_pos_iff.2 hne
 refine ⟨⟨_,hf,hnm,hbd⟩,fun w S m cargs hG hh hl => ?_⟩
 obtain ⟨v,rfl⟩ : ∃ v,cargs = [v] := by
  have := hl.1
  match cargs,this with
  | [v],_ => exact ⟨v,rfl⟩
 have hv := hl.2 0 v _ rfl rfl
 generalize hx : AV.ref 0 1 0 zs.length = x0 at hv
 cases hv <;> simp at hx
 rename_i b o c hm hlc hcap
 ·obtain ⟨rfl,rfl,rfl,rfl⟩ := hx
  obtain ⟨hes,arr,T,hb,hcell⟩ := hh.blk 0 _ _ hm rfl
  have hbs : b < w.heap.size := (Array.getElem?_eq_some_iff.1 hb).1
  have hcap' := hcap arr T _ hb
  have hget : ∀ j (hj : j < zs.length),arr[o + j]? = some (.int .i64 zs[j]) := fun j hj => by
   obtain ⟨u,hu,hf⟩ := hcell j 0 _ (.int .i64 zs[j]) (ints_get zs j hj) rfl
   cases hf
   simpa using hu
  have hH : Sort.Holds (Value.int .i64) w b (o + 0 * 1) zs.toArray := fun j hj => by
   have hj' : j < zs.length := by simpa using hj
   refine ⟨?_,by simp [World.frozen?,hb]⟩
   simp only [World.cell?,hb]
   have := hget j hj'
   simp only [Nat.zero_mul,Nat.add_zero]
   simp [this,hj']
  refine Calls.mono (hcall b (o + 0 * 1) c w hH hbs hlc) fun e w' hq => ?_
  obtain ⟨⟨v,rfl,hres⟩,n,os,rfl⟩ := hq
  have hheap := heap_sorted w n b (o + 0 * 1) ys.toArray os hb
  have hother : ∀ k,k < w.heap.size → k ≠ b → (Sort.grow (Sort.putRow (Value.int .i64) (Sort.ahead w n) b (o + 0 * 1) ys.toArray) os).heap[k]? = w.heap[k]? := fun k hk hkb => by
   rw [hheap k hk,if_neg hkb]
  have hfar : ∀ k,S k → k ≠ b := fun k hk e => hh.out 0 _ b o rfl rfl hm (e ▸ hk)
  have hsz : w.heap.size ≤ (Sort.grow (Sort.putRow (Value.int .i64) (Sort.ahead w n) b (o + 0 * 1) ys.toArray) os).heap.size := by
   show w.heap.size ≤ (w.heap.modify b _ ++ os).size
   simp
  have hshape : ∀ k,k < w.heap.size → SameShape w (Sort.grow (Sort.putRow (Value.int .i64) (Sort.ahead w n) b (o + 0 * 1) ys.toArray) os) k := fun k hk => by
   by_cases e : k = b
   ·subst e
    intro arr' T' fr' h
    rw [hheap k hk,if_pos rfl] at h
    simp only [Option.some.injEq,Obj.cells.injEq] at h
    obtain ⟨rfl,rfl,rfl⟩ := h
    exact ⟨arr,_,hb,by simp [Sort.putCells]⟩
   ·exact SameShape.of_eq (hother k hk e)
  have hml : m.length = 1 := hh.len
  refine ⟨S,m,⟨hh.len,fun i l x hi hx => ?_,fun i j bi bj b' o1 o2 hij hi hj li lj mi mj => ?_,fun i bi b' o' hi li mi => ?_,fun k hk => Nat.lt_of_lt_of_le (hh.low k hk) hsz,fun i b' o' hi => Nat.lt_of_lt_of_le (hh.lowm i b' o' hi) hsz⟩,?_,
   ⟨hsz,rfl,rfl,rfl,fun k hk ho => hother k hk (fun e => ho ⟨0,o,e ▸ hm⟩),fun k hs hk => hother k hk (hfar k hs),hshape,fun _ h => h,fun _ h => .inl h,fun i b' o' h => .inl ⟨i,o',h⟩,fun _ _ => rfl,fun _ => Nat.le_add_right _ _⟩⟩
  ·cases i with
   | succ i => simp at hx
   | zero =>
    simp at hx; subst hx
    rw [hm] at hi; simp at hi; subst hi
    refine ⟨fun r row hrow => ?_,Sort.putCells (Value.int .i64) (o + 0 * 1) ys.toArray arr,T,(hheap b hbs).trans (if_pos rfl),fun r j row x hrow hx => ?_⟩
    ·simp only [ints,List.getElem?_map,Option.map_eq_some_iff] at hrow
     obtain ⟨z,_,rfl⟩ := hrow
     rfl
    ·simp only [ints,List.getElem?_map,Option.map_eq_some_iff] at hrow
     obtain ⟨z,hz,rfl⟩ := hrow
     have hr := (List.getElem?_eq_some_iff.1 hz).1
     rw [hys] at hr
     cases j with
     | succ j => simp at hx
     | zero =>
      simp at hx; subst hx
      refine ⟨.int .i64 z,?_,.int _ _⟩
      have h1 := hget r hr
      have h2 : o + r < arr.size := (Array.getElem?_eq_some_iff.1 h1).1
      have h3 : r < ys.length := by rw [hys]; exact hr
      simp only [Sort.putCells,Array.getElem?_mapIdx,Nat.mul_one,Nat.add_zero,Nat.zero_mul,h1,Option.map_some]
      have h4 : o ≤ o + r ∧ o + r < o + ys.toArray.size := by simp; exact h3
      rw [if_pos h4,show o + r - o = r from by omega]
      have h5 : ys.toArray[r]! = z := by
       rw [getElem!_pos ys.toArray r (by simpa using h3)]
       simpa [h3] using hz
      rw [h5]
  ·cases i <;> cases j <;> simp at hi hj hij
  ·cases i with
   | succ i => simp at hi
   | zero => rw [hm] at mi; simp at mi; obtain ⟨rfl,rfl⟩ := mi; exact hh.out 0 _ b o rfl rfl hm
  ·rcases hres with ⟨rfl,rfl⟩ | ⟨k,hk,rfl,rfl⟩
   ·exact .tuple _ _ rfl (fun i v x hv => by simp at hv)
   ·refine .ref 0 1 0 k b o c hm (by omega) (fun arr' T' fr' h => ?_)
    rw [hheap b hbs,if_pos rfl] at h
    simp only [Option.some.injEq,Obj.cells.injEq] at h
    obtain ⟨rfl,_,_⟩ := h
    simpa [Sort.putCells] using hcap'
 ·exact absurd hx.2.2.2 (by omega)
theorem ok85_cons (zs : List Int) (hne : zs ≠ []) (hlen : zs.length < 1048576) : Ok Tryz.prog 85 [.ref 0 1 0 zs.length] [.plain 1 (ints zs)] (.ret (.tuple [])) [.plain 1 (ints (sorted zs))] :=
 lift_row Tryz.func85 rfl rfl zs (sorted zs) (sorted_length zs) hne _ fun b off cap w hH hb hc => Calls.mono (Tryz.slices_Sort_int b off cap zs w hH hb (by omega)) fun e w' hq => by
  obtain ⟨rfl,n,os,rfl⟩ := hq
  exact ⟨⟨_,rfl,.inl ⟨rfl,rfl⟩⟩,n,os,rfl⟩
/-- From a contract that leaves the world as it was. -/
theorem ok_of_calls {P : Program} {f : FuncId} {args : List AV} {h : List Blk} {x : AV} (he : Enter P f) (hc : ∀ w S m cargs,HRel w S m h → LRel w S m cargs args → ∃ v,Calls P f cargs.toArray w (fun e w' => e = .returned v ∧ w' = w) ∧ VRel w S m v x) : Ok P f args h (.ret x) h :=
 ⟨he,fun w S m cargs hG hh hl => by
  obtain ⟨v,hv,hx⟩ := hc w S m cargs hh hl
  refine Calls.mono hv fun e w' hq => ?_
  obtain ⟨rfl,rfl⟩ := hq
  exact ⟨S,m,hh,hx,Fr.refl _ S m⟩⟩
theorem ok106 (x : Int) (h0 : 0 ≤ x) (h1 : x ≤ 18446744073709551615) : Ok Tryz.prog 106 [.fv (.int .u64 x)] [] (.ret (.fv (.int .i64 (Lib.bitLen x.toNat)))) [] :=
 ok_of_calls ⟨_,Tryz.func106,rfl,rfl⟩ fun w S m cargs hh hl => by
  obtain ⟨v,rfl⟩ : ∃ v,cargs = [v] := by
   have := hl.1
   match cargs,this with
   | [v],_ => exact ⟨v,rfl⟩
  obtain rfl := (hl.2 0 v _ rfl rfl).int_inv
  exact ⟨_,Tryz.bits_Len x w h0 h1,.int_mk _ _⟩
theorem ok138_nil : Ok Tryz.prog 138 [.ref 0 1 0 0,.fv (.int .i64 0),.fv (.int .i64 0)] [.plain 1 []] (.ret (.tuple [])) [.plain 1 []] := by
 refine ok_start (k := 46) (n0 := 1) (rs := []) mix Tryz.func138 rfl rfl rfl rfl rfl rfl rfl ?_
 have hw : IntKind.wrap .i64 ((0 : Int) + 1) = 1 := rfl
 simp -implicitDefEqProofs only [hw,
  awp_seq,awp_skip,awp_ret,awp_exit,awp_label,awp_block,awp_cond,awp_reg,awp_loop,thenC_normal,thenC_ret,thenC_exit,thenC_pan,then_normal,then_ret,then_exit,then_pan,inBlock_normal,inBlock_ret,inBlock_pan,inBlock_exit,condK_bool,condK_any,
  nxt_nil,nxt_dnil,nxt_at,nxt_draw,nxt_quiet,stepAt_plain,stepQ_plain,stepAt_guard,stepQ_guard,guardK_yes,guardK_no,guardQ_yes,guardQ_no,gval_eq,gvO_some,gv_bool,gv_undef,putK_some,readK_at,readK_no,effK_some,ok_none,ok_nil,true_and,pickK_some,pickK_any,put_some,put_none,
  bin2_some,map1_some,ia2_some,opK_move,opK_assign,opK_bin,opK_un,opK_convert,opK_idxAddr,opK_idx,quK_move,quK_assign,quK_bin,quK_un,quK_convert,quK_idxAddr,quK_idx,opK_len,quK_len,opK_load,quK_load,ld1_some,opK_pick,quK_pick,opK_call,call2_some,opK_buildSlice,opK_slice,quK_slice,opK_fad,quK_fad,opK_fld,quK_fld,opK_ext,quK_ext,ext_tuple,opK_nck,quK_nck,opK_mki,quK_mki,opK_mkf,quK_mkf,opK_panic,panK_iface,Option.map_none,opK_append,opK_cap,opK_clear,opK_store,opK_box,opK_alloc,opK_makeSlice,eff_append_eq,eff_store_eq,evs_nil,evs_cons,cons2_some,
  ev_tmp,ev_const,ev_func,ofValue,ofCell,Option.map_some,bin_add,bin_sub,bin_mul,bin_eql,bin_neq,bin_lss,bin_leq,bin_gtr,bin_geq,un_not,un_neg,
  List.range,List.range.loop,Array.size,List.length_cons,List.length_nil,List.size_toArray,Nat.reduceAdd,Nat.reduceSub,Nat.reduceEqDiff,Nat.zero_add,List.getElem?_toArray,List.getElem?_cons_zero,List.getElem?_cons_succ,List.replicate,List.cons_append,List.nil_append,List.append_nil,List.set_cons_zero,List.set_cons_succ,List.getD_cons_zero,List.getD_cons_succ,
  retR_ret,retR_normal,retR_pan,resAs_nil,resAs_cons,resA_tmp,resA_cell,fin_one,fin_none,fin_two,
  decide_eq_true_eq,decide_not,Bool.not_eq_true',Bool.false_eq_true,Bool.true_eq_false,ne_eq,not_true_eq_false,not_false_eq_true,if_true,if_false,decide_true,decide_false,Bool.not_true,Bool.not_false,eq_self,↓reduceIte,reduceCtorEq]
 refine loop_rule (fun _ : Nat => ⟨[.ref 0 1 0 0,.fv (.int .i64 0),.fv (.int .i64 0),.any,.any,.any,.fv (.int .i64 1),.any,.any,.any,.any,.any,.any,.any,.any,.any,.any,.any,.any,.any,.any,.any,.any,.any,.any,.any,.any,.any,.any,.any,.any,.any,.any,.any,.any,.any,.any,.any,.any,.any,.any,.any,.any,.any,.any,.any,.any,.any,.any],[.plain 1 []],[]⟩) (fun _ => True) (fun _ => 0) 0 (le_wk (by simp [wk])) trivial (fun i hp s hrk => ?_)
 have hc : ((1 : Int) < 0) = False := by simp
 simp -implicitDefEqProofs only [hc,
  awp_seq,awp_skip,awp_ret,awp_exit,awp_label,awp_block,awp_cond,awp_reg,awp_loop,thenC_normal,thenC_ret,thenC_exit,thenC_pan,then_normal,then_ret,then_exit,then_pan,inBlock_normal,inBlock_ret,inBlock_pan,inBlock_exit,condK_bool,condK_any,
  nxt_nil,nxt_dnil,nxt_at,nxt_draw,nxt_quiet,stepAt_plain,stepQ_plain,stepAt_guard,stepQ_guard,guardK_yes,guardK_no,guardQ_yes,guardQ_no,gval_eq,gvO_some,gv_bool,gv_undef,putK_some,readK_at,readK_no,effK_some,ok_none,ok_nil,true_and,pickK_some,pickK_any,put_some,put_none,
  bin2_some,map1_some,ia2_some,opK_move,opK_assign,opK_bin,opK_un,opK_convert,opK_idxAddr,opK_idx,quK_move,quK_assign,quK_bin,quK_un,quK_convert,quK_idxAddr,quK_idx,opK_len,quK_len,opK_load,quK_load,ld1_some,opK_pick,quK_pick,opK_call,call2_some,opK_buildSlice,opK_slice,quK_slice,opK_fad,quK_fad,opK_fld,quK_fld,opK_ext,quK_ext,ext_tuple,opK_nck,quK_nck,opK_mki,quK_mki,opK_mkf,quK_mkf,opK_panic,panK_iface,Option.map_none,opK_append,opK_cap,opK_clear,opK_store,opK_box,opK_alloc,opK_makeSlice,eff_append_eq,eff_store_eq,evs_nil,evs_cons,cons2_some,
  ev_tmp,ev_const,ev_func,ofValue,ofCell,Option.map_some,bin_add,bin_sub,bin_mul,bin_eql,bin_neq,bin_lss,bin_leq,bin_gtr,bin_geq,un_not,un_neg,
  List.range,List.range.loop,Array.size,List.length_cons,List.length_nil,List.size_toArray,Nat.reduceAdd,Nat.reduceSub,Nat.reduceEqDiff,Nat.zero_add,List.getElem?_toArray,List.getElem?_cons_zero,List.getElem?_cons_succ,List.replicate,List.cons_append,List.nil_append,List.append_nil,List.set_cons_zero,List.set_cons_succ,List.getD_cons_zero,List.getD_cons_succ,
  retR_ret,retR_normal,retR_pan,resAs_nil,resAs_cons,resA_tmp,resA_cell,fin_one,fin_none,fin_two,
  decide_eq_true_eq,decide_not,Bool.not_eq_true',Bool.false_eq_true,Bool.true_eq_false,ne_eq,not_true_eq_false,not_false_eq_true,if_true,if_false,decide_true,decide_false,Bool.not_true,Bool.not_false,eq_self,↓reduceIte,reduceCtorEq]
 exact Le.refl _ _
theorem ok112_nil (x : AV) : Ok Tryz.prog 112 [.ref 0 1 0 0,.fv (.int .i64 0),.fv (.int .i64 0),x] [.plain 1 []] (.ret (.tuple [])) [.plain 1 []] := by
 refine ok_start (k := 130) (n0 := 1) (rs := []) mix Tryz.func112 rfl rfl rfl rfl rfl rfl rfl ?_
 simp -implicitDefEqProofs only [awp_seq,awp_skip,awp_ret,awp_exit,awp_label,awp_block,awp_cond,awp_reg,awp_loop,thenC_normal,thenC_ret,thenC_exit,thenC_pan,then_normal,then_ret,then_exit,then_pan,inBlock_normal,inBlock_ret,inBlock_pan,inBlock_exit,condK_bool,condK_any,
  nxt_nil,nxt_dnil,nxt_at,nxt_draw,nxt_quiet,stepAt_plain,stepQ_plain,stepAt_guard,stepQ_guard,guardK_yes,guardK_no,guardQ_yes,guardQ_no,gval_eq,gvO_some,gv_bool,gv_undef,putK_some,readK_at,readK_no,effK_some,ok_none,ok_nil,true_and,pickK_some,pickK_any,put_some,put_none,
  bin2_some,map1_some,ia2_some,opK_move,opK_assign,opK_bin,opK_un,opK_convert,opK_idxAddr,opK_idx,quK_move,quK_assign,quK_bin,quK_un,quK_convert,quK_idxAddr,quK_idx,opK_len,quK_len,opK_load,quK_load,ld1_some,opK_pick,quK_pick,opK_call,call2_some,opK_buildSlice,opK_slice,quK_slice,opK_fad,quK_fad,opK_fld,quK_fld,opK_ext,quK_ext,ext_tuple,opK_nck,quK_nck,opK_mki,quK_mki,opK_mkf,quK_mkf,opK_panic,panK_iface,Option.map_none,opK_append,opK_cap,opK_clear,opK_store,opK_box,opK_alloc,opK_makeSlice,eff_append_eq,eff_store_eq,evs_nil,evs_cons,cons2_some,
  ev_tmp,ev_const,ev_func,ofValue,ofCell,Option.map_some,bin_add,bin_sub,bin_mul,bin_eql,bin_neq,bin_lss,bin_leq,bin_gtr,bin_geq,un_not,un_neg,
  List.range,List.range.loop,Array.size,List.length_cons,List.length_nil,List.size_toArray,Nat.reduceAdd,Nat.reduceSub,Nat.reduceEqDiff,Nat.zero_add,List.getElem?_toArray,List.getElem?_cons_zero,List.getElem?_cons_succ,List.replicate,List.cons_append,List.nil_append,List.append_nil,List.set_cons_zero,List.set_cons_succ,List.getD_cons_zero,List.getD_cons_succ,
  retR_ret,retR_normal,retR_pan,resAs_nil,resAs_cons,resA_tmp,resA_cell,fin_one,fin_none,fin_two,
  decide_eq_true_eq,decide_not,Bool.not_eq_true',Bool.false_eq_true,Bool.true_eq_false,ne_eq,not_true_eq_false,not_false_eq_true,if_true,if_false,decide_true,decide_false,Bool.not_true,Bool.not_false,eq_self,↓reduceIte,reduceCtorEq]
 refine loop_rule (fun _ : Nat => ⟨[.ref 0 1 0 0,.fv (.int .i64 0),.fv (.int .i64 0),x,.any,.any,.any,.any,.fv (.bool true),.fv (.bool true),.any,.any,.any,.any,.any,.any,.any,.any,.any,.any,.any,.any,.any,.any,.any,.any,.any,.any,.any,.any,.any,.any,.any,.any,.any,.any,.any,.any,.any,.any,.any,.any,.any,.any,.any,.any,.any,.any,.any,.any,.any,.any,.any,.any,.any,.any,.any,.any,.any,.any,.any,.any,.any,.any,.any,.any,.any,.any,.any,.any,.any,.any,.any,.any,.any,.any,.any,.any,.any,.any,.any,.any,.any,.any,.any,.any,.any,.any,.any,.any,.any,.any,.any,.any,.any,.any,.any,.any,.any,.any,.any,.any,.any,.any,.any,.any,.any,.any,.any,.any,.any,.any,.any,.any,.any,.any,.any,.any,.any,.any,.any,.any,.any,.any,.any,.any,.any,.any,.any,.any,.any,.any,.any,.any],[.plain 1 []],[]⟩) (fun _ => True) (fun _ => 0) 0 (le_wk (by simp [wk])) trivial (fun i hp s hrk => ?_)
 have hw : IntKind.wrap .i64 ((0 : Int) - 0) = 0 := rfl
 have hc : ((0 : Int) ≤ 12) = True := by simp
 simp -implicitDefEqProofs only [hw,hc,
  awp_seq,awp_skip,awp_ret,awp_exit,awp_label,awp_block,awp_cond,awp_reg,awp_loop,thenC_normal,thenC_ret,thenC_exit,thenC_pan,then_normal,then_ret,then_exit,then_pan,inBlock_normal,inBlock_ret,inBlock_pan,inBlock_exit,condK_bool,condK_any,
  nxt_nil,nxt_dnil,nxt_at,nxt_draw,nxt_quiet,stepAt_plain,stepQ_plain,stepAt_guard,stepQ_guard,guardK_yes,guardK_no,guardQ_yes,guardQ_no,gval_eq,gvO_some,gv_bool,gv_undef,putK_some,readK_at,readK_no,effK_some,ok_none,ok_nil,true_and,pickK_some,pickK_any,put_some,put_none,
  bin2_some,map1_some,ia2_some,opK_move,opK_assign,opK_bin,opK_un,opK_convert,opK_idxAddr,opK_idx,quK_move,quK_assign,quK_bin,quK_un,quK_convert,quK_idxAddr,quK_idx,opK_len,quK_len,opK_load,quK_load,ld1_some,opK_pick,quK_pick,opK_call,call2_some,opK_buildSlice,opK_slice,quK_slice,opK_fad,quK_fad,opK_fld,quK_fld,opK_ext,quK_ext,ext_tuple,opK_nck,quK_nck,opK_mki,quK_mki,opK_mkf,quK_mkf,opK_panic,panK_iface,Option.map_none,opK_append,opK_cap,opK_clear,opK_store,opK_box,opK_alloc,opK_makeSlice,eff_append_eq,eff_store_eq,evs_nil,evs_cons,cons2_some,
  ev_tmp,ev_const,ev_func,ofValue,ofCell,Option.map_some,bin_add,bin_sub,bin_mul,bin_eql,bin_neq,bin_lss,bin_leq,bin_gtr,bin_geq,un_not,un_neg,
  List.range,List.range.loop,Array.size,List.length_cons,List.length_nil,List.size_toArray,Nat.reduceAdd,Nat.reduceSub,Nat.reduceEqDiff,Nat.zero_add,List.getElem?_toArray,List.getElem?_cons_zero,List.getElem?_cons_succ,List.replicate,List.cons_append,List.nil_append,List.append_nil,List.set_cons_zero,List.set_cons_succ,List.getD_cons_zero,List.getD_cons_succ,
  retR_ret,retR_normal,retR_pan,resAs_nil,resAs_cons,resA_tmp,resA_cell,fin_one,fin_none,fin_two,
  decide_eq_true_eq,decide_not,Bool.not_eq_true',Bool.false_eq_true,Bool.true_eq_false,ne_eq,not_true_eq_false,not_false_eq_true,if_true,if_false,decide_true,decide_false,Bool.not_true,Bool.not_false,eq_self,↓reduceIte,reduceCtorEq]
 refine callK_ret _ _ _ _ (call_lent [0] ok138_nil rfl rfl (by simp) (by simp [Blk.live])) (ok_none _ _) ?_
 simp -implicitDefEqProofs only [subAny,subA,subL,backSub,back,putBack,subBlk,Option.getD_some,List.map_cons,List.map_nil,Nat.not_lt_zero,Nat.sub_zero,Nat.add_zero,List.length_map,
  awp_seq,awp_skip,awp_ret,awp_exit,awp_label,awp_block,awp_cond,awp_reg,awp_loop,thenC_normal,thenC_ret,thenC_exit,thenC_pan,then_normal,then_ret,then_exit,then_pan,inBlock_normal,inBlock_ret,inBlock_pan,inBlock_exit,condK_bool,condK_any,
  nxt_nil,nxt_dnil,nxt_at,nxt_draw,nxt_quiet,stepAt_plain,stepQ_plain,stepAt_guard,stepQ_guard,guardK_yes,guardK_no,guardQ_yes,guardQ_no,gval_eq,gvO_some,gv_bool,gv_undef,putK_some,readK_at,readK_no,effK_some,ok_none,ok_nil,true_and,pickK_some,pickK_any,put_some,put_none,
  bin2_some,map1_some,ia2_some,opK_move,opK_assign,opK_bin,opK_un,opK_convert,opK_idxAddr,opK_idx,quK_move,quK_assign,quK_bin,quK_un,quK_convert,quK_idxAddr,quK_idx,opK_len,quK_len,opK_load,quK_load,ld1_some,opK_pick,quK_pick,opK_call,call2_some,opK_buildSlice,opK_slice,quK_slice,opK_fad,quK_fad,opK_fld,quK_fld,opK_ext,quK_ext,ext_tuple,opK_nck,quK_nck,opK_mki,quK_mki,opK_mkf,quK_mkf,opK_panic,panK_iface,Option.map_none,opK_append,opK_cap,opK_clear,opK_store,opK_box,opK_alloc,opK_makeSlice,eff_append_eq,eff_store_eq,evs_nil,evs_cons,cons2_some,
  ev_tmp,ev_const,ev_func,ofValue,ofCell,Option.map_some,bin_add,bin_sub,bin_mul,bin_eql,bin_neq,bin_lss,bin_leq,bin_gtr,bin_geq,un_not,un_neg,
  List.range,List.range.loop,Array.size,List.length_cons,List.length_nil,List.size_toArray,Nat.reduceAdd,Nat.reduceSub,Nat.reduceEqDiff,Nat.zero_add,List.getElem?_toArray,List.getElem?_cons_zero,List.getElem?_cons_succ,List.replicate,List.cons_append,List.nil_append,List.append_nil,List.set_cons_zero,List.set_cons_succ,List.getD_cons_zero,List.getD_cons_succ,
  retR_ret,retR_normal,retR_pan,resAs_nil,resAs_cons,resA_tmp,resA_cell,fin_one,fin_none,fin_two,
  decide_eq_true_eq,decide_not,Bool.not_eq_true',Bool.false_eq_true,Bool.true_eq_false,ne_eq,not_true_eq_false,not_false_eq_true,if_true,if_false,decide_true,decide_false,Bool.not_true,Bool.not_false,eq_self,↓reduceIte,reduceCtorEq]
 exact Le.refl _ _
theorem ok85_nil : Ok Tryz.prog 85 [.ref 0 1 0 0] [.plain 1 []] (.ret (.tuple [])) [.plain 1 []] := by
 refine ok_start (k := 10) (n0 := 1) (rs := []) mix Tryz.func85 rfl rfl rfl rfl rfl rfl rfl ?_
 have hw : IntKind.wrap .u64 0 = 0 := rfl
 have h0 : ((0 : Nat) : Int) = 0 := rfl
 simp -implicitDefEqProofs only [h0,hw,
  evx,evy,ofValue,ofCell,List.range,List.range.loop,Array.size,Nat.reduceAdd,Nat.reduceSub,Nat.reduceEqDiff,List.replicate,if_true,if_false,↓reduceIte,reduceCtorEq,elB,evParts,Int.reduceToNat,Int.reduceLE,Int.reduceLT,Int.reduceEq,Nat.reduceMul,Nat.reduceLeDiff,Nat.reduceLT,ty3,ty28,ty4,ty160]
 refine callK_ret _ _ _ _ (call_pure (ok106 0 (by omega) (by omega)) (fun _ => rfl) (fun _ => rfl)) (ok_nil _ _) ?_
 simp -implicitDefEqProofs only [awp_seq,awp_skip,awp_ret,awp_exit,awp_label,awp_block,awp_cond,awp_reg,awp_loop,thenC_normal,thenC_ret,thenC_exit,thenC_pan,then_normal,then_ret,then_exit,then_pan,inBlock_normal,inBlock_ret,inBlock_pan,inBlock_exit,condK_bool,condK_any,
  nxt_nil,nxt_dnil,nxt_at,nxt_draw,nxt_quiet,stepAt_plain,stepQ_plain,stepAt_guard,stepQ_guard,guardK_yes,guardK_no,guardQ_yes,guardQ_no,gval_eq,gvO_some,gv_bool,gv_undef,putK_some,readK_at,readK_no,effK_some,ok_none,ok_nil,true_and,pickK_some,pickK_any,put_some,put_none,
  bin2_some,map1_some,ia2_some,opK_move,opK_assign,opK_bin,opK_un,opK_convert,opK_idxAddr,opK_idx,quK_move,quK_assign,quK_bin,quK_un,quK_convert,quK_idxAddr,quK_idx,opK_len,quK_len,opK_load,quK_load,ld1_some,opK_pick,quK_pick,opK_call,call2_some,opK_buildSlice,opK_slice,quK_slice,opK_fad,quK_fad,opK_fld,quK_fld,opK_ext,quK_ext,ext_tuple,opK_nck,quK_nck,opK_mki,quK_mki,opK_mkf,quK_mkf,opK_panic,panK_iface,Option.map_none,opK_append,opK_cap,opK_clear,opK_store,opK_box,opK_alloc,opK_makeSlice,eff_append_eq,eff_store_eq,evs_nil,evs_cons,cons2_some,
  ev_tmp,ev_const,ev_func,ofValue,ofCell,Option.map_some,bin_add,bin_sub,bin_mul,bin_eql,bin_neq,bin_lss,bin_leq,bin_gtr,bin_geq,un_not,un_neg,
  List.range,List.range.loop,Array.size,List.length_cons,List.length_nil,List.size_toArray,Nat.reduceAdd,Nat.reduceSub,Nat.reduceEqDiff,Nat.zero_add,List.getElem?_toArray,List.getElem?_cons_zero,List.getElem?_cons_succ,List.replicate,List.cons_append,List.nil_append,List.append_nil,List.set_cons_zero,List.set_cons_succ,List.getD_cons_zero,List.getD_cons_succ,
  retR_ret,retR_normal,retR_pan,resAs_nil,resAs_cons,resA_tmp,resA_cell,fin_one,fin_none,fin_two,
  decide_eq_true_eq,decide_not,Bool.not_eq_true',Bool.false_eq_true,Bool.true_eq_false,ne_eq,not_true_eq_false,not_false_eq_true,if_true,if_false,decide_true,decide_false,Bool.not_true,Bool.not_false,eq_self,↓reduceIte,reduceCtorEq]
 refine callK_ret _ _ _ _ (call_lent [0] (ok112_nil _) rfl rfl (by simp) (by simp [Blk.live])) (ok_none _ _) ?_
 simp -implicitDefEqProofs only [subAny,subA,subL,backSub,back,putBack,subBlk,Option.getD_some,List.map_cons,List.map_nil,Nat.not_lt_zero,Nat.sub_zero,Nat.add_zero,List.length_map,
  awp_seq,awp_skip,awp_ret,awp_exit,awp_label,awp_block,awp_cond,awp_reg,awp_loop,thenC_normal,thenC_ret,thenC_exit,thenC_pan,then_normal,then_ret,then_exit,then_pan,inBlock_normal,inBlock_ret,inBlock_pan,inBlock_exit,condK_bool,condK_any,
  nxt_nil,nxt_dnil,nxt_at,nxt_draw,nxt_quiet,stepAt_plain,stepQ_plain,stepAt_guard,stepQ_guard,guardK_yes,guardK_no,guardQ_yes,guardQ_no,gval_eq,gvO_some,gv_bool,gv_undef,putK_some,readK_at,readK_no,effK_some,ok_none,ok_nil,true_and,pickK_some,pickK_any,put_some,put_none,
  bin2_some,map1_some,ia2_some,opK_move,opK_assign,opK_bin,opK_un,opK_convert,opK_idxAddr,opK_idx,quK_move,quK_assign,quK_bin,quK_un,quK_convert,quK_idxAddr,quK_idx,opK_len,quK_len,opK_load,quK_load,ld1_some,opK_pick,quK_pick,opK_call,call2_some,opK_buildSlice,opK_slice,quK_slice,opK_fad,quK_fad,opK_fld,quK_fld,opK_ext,quK_ext,ext_tuple,opK_nck,quK_nck,opK_mki,quK_mki,opK_mkf,quK_mkf,opK_panic,panK_iface,Option.map_none,opK_append,opK_cap,opK_clear,opK_store,opK_box,opK_alloc,opK_makeSlice,eff_append_eq,eff_store_eq,evs_nil,evs_cons,cons2_some,
  ev_tmp,ev_const,ev_func,ofValue,ofCell,Option.map_some,bin_add,bin_sub,bin_mul,bin_eql,bin_neq,bin_lss,bin_leq,bin_gtr,bin_geq,un_not,un_neg,
  List.range,List.range.loop,Array.size,List.length_cons,List.length_nil,List.size_toArray,Nat.reduceAdd,Nat.reduceSub,Nat.reduceEqDiff,Nat.zero_add,List.getElem?_toArray,List.getElem?_cons_zero,List.getElem?_cons_succ,List.replicate,List.cons_append,List.nil_append,List.append_nil,List.set_cons_zero,List.set_cons_succ,List.getD_cons_zero,List.getD_cons_succ,
  retR_ret,retR_normal,retR_pan,resAs_nil,resAs_cons,resA_tmp,resA_cell,fin_one,fin_none,fin_two,
  decide_eq_true_eq,decide_not,Bool.not_eq_true',Bool.false_eq_true,Bool.true_eq_false,ne_eq,not_true_eq_false,not_false_eq_true,if_true,if_false,decide_true,decide_false,Bool.not_true,Bool.not_false,eq_self,↓reduceIte,reduceCtorEq]
 exact Le.refl _ _
theorem ok85 (zs : List Int) (hlen : zs.length < 1048576) : Ok Tryz.prog 85 [.ref 0 1 0 zs.length] [.plain 1 (ints zs)] (.ret (.tuple [])) [.plain 1 (ints (sorted zs))] := by
 by_cases h : zs = []
 ·subst h
  have e : sorted [] = [] := List.eq_nil_of_length_eq_zero (sorted_length [])
  rw [e]
  exact ok85_nil
 ·exact ok85_cons zs h hlen
end Go.Abs
/- Lists of numbers: the library's and the program's. -/
namespace Go.Abs
set_option linter.unusedSectionVars false
variable [Kn]
open Go.Proofs
set_option linter.unusedVariables false
set_option linter.unusedSimpArgs false
set_option maxRecDepth 100000
set_option maxHeartbeats 1000000
def rowsOf (ss : List (List Int)) : List (List FV) := ss.map fun l => [.lst 1 (ints l)]
theorem rowsOf_get (ss : List (List Int)) (i : Nat) (h : i < ss.length) : (rowsOf ss)[i]? = some [.lst 1 (ints ss[i])] := by simp [rowsOf,h]
end Go.Abs
