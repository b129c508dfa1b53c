/- All step equations in one. -/
import Derived.Test.YtnhghoonlmoinaaGreatAbsS
namespace Go.Abs
variable [Kn]
set_option linter.unusedSectionVars false
set_option linter.defProp false
def evx := And.intro (And.intro (And.intro (And.intro (And.intro (And.intro (And.intro (And.intro (@awp_seq) (@awp_skip)) (And.intro (@awp_ret) (@awp_exit))) (And.intro (And.intro (@awp_label) (@awp_block)) (And.intro (@awp_cond) (@awp_reg)))) (And.intro (And.intro (And.intro (@awp_loop) (@thenC_normal)) (And.intro (@thenC_ret) (@thenC_exit))) (And.intro (And.intro (@thenC_pan) (@then_normal)) (And.intro (@then_ret) (And.intro (@then_exit) (@then_pan)))))) (And.intro (And.intro (And.intro (And.intro (@inBlock_normal) (@inBlock_ret)) (And.intro (@inBlock_pan) (@inBlock_exit))) (And.intro (And.intro (@condK_bool) (@condK_any)) (And.intro (@nxt_nil) (@nxt_dnil)))) (And.intro (And.intro (And.intro (@nxt_at) (@nxt_draw)) (And.intro (@nxt_quiet) (@stepAt_plain))) (And.intro (And.intro (@stepQ_plain) (@stepAt_guard)) (And.intro (@stepQ_guard) (And.intro (@guardK_yes) (@guardK_no))))))) (And.intro (And.intro (And.intro (And.intro (And.intro (@guardQ_yes) (@guardQ_no)) (And.intro (@gval_eq) (@gvO_some))) (And.intro (And.intro (@gv_bool) (@gv_undef)) (And.intro (@putK_some) (@readK_at)))) (And.intro (And.intro (And.intro (@readK_no) (@effK_some)) (And.intro (@ok_none) (@ok_nil))) (And.intro (And.intro (@pickK_some) (@pickK_any)) (And.intro (@put_some) (And.intro (@put_none) (@bin2_some)))))) (And.intro (And.intro (And.intro (And.intro (@map1_some) (@ia2_some)) (And.intro (@opK_move) (@opK_assign))) (And.intro (And.intro (@opK_bin) (@opK_un)) (And.intro (@opK_convert) (And.intro (@opK_idxAddr) (@opK_idx))))) (And.intro (And.intro (And.intro (@quK_move) (@quK_assign)) (And.intro (@quK_bin) (@quK_un))) (And.intro (And.intro (@quK_convert) (@quK_idxAddr)) (And.intro (@quK_idx) (And.intro (@opK_len) (@quK_len)))))))) (And.intro (And.intro (And.intro (And.intro (And.intro (And.intro (@opK_load) (@quK_load)) (And.intro (@ld1_some) (@opK_pick))) (And.intro (And.intro (@quK_pick) (@opK_call)) (And.intro (@call2_some) (@opK_buildSlice)))) (And.intro (And.intro (And.intro (@opK_slice) (@quK_slice)) (And.intro (@opK_fad) (@quK_fad))) (And.intro (And.intro (@opK_fld) (@quK_fld)) (And.intro (@opK_ext) (And.intro (@quK_ext) (@ext_tuple)))))) (And.intro (And.intro (And.intro (And.intro (@opK_nck) (@quK_nck)) (And.intro (@opK_mki) (@quK_mki))) (And.intro (And.intro (@opK_mkf) (@quK_mkf)) (And.intro (@opK_panic) (And.intro (@panK_iface) (@opK_append))))) (And.intro (And.intro (And.intro (@opK_cap) (@opK_clear)) (And.intro (@opK_store) (@opK_box))) (And.intro (And.intro (@opK_alloc) (@opK_makeSlice)) (And.intro (@eff_append_eq) (And.intro (@eff_store_eq) (@evs_nil))))))) (And.intro (And.intro (And.intro (And.intro (And.intro (@evs_cons) (@cons2_some)) (And.intro (@ev_tmp) (@ev_const))) (And.intro (And.intro (@ev_func) (@bin_add)) (And.intro (@bin_sub) (@bin_mul)))) (And.intro (And.intro (And.intro (@bin_eql) (@bin_neq)) (And.intro (@bin_lss) (@bin_leq))) (And.intro (And.intro (@bin_gtr) (@bin_geq)) (And.intro (@un_not) (And.intro (@un_neg) (@Nat.zero_add)))))) (And.intro (And.intro (And.intro (And.intro (@retR_ret) (@retR_normal)) (And.intro (@retR_pan) (@resAs_nil))) (And.intro (And.intro (@resAs_cons) (@resA_tmp)) (And.intro (@resA_cell) (And.intro (@fin_one) (@fin_none))))) (And.intro (And.intro (And.intro (@fin_two) (@decide_eq_true_eq)) (And.intro (@Bool.not_eq_true') (@Bool.false_eq_true))) (And.intro (And.intro (@Bool.true_eq_false) (@not_true_eq_false)) (And.intro (@not_false_eq_true) (And.intro (@decide_true) (@decide_false))))))))) (And.intro (And.intro (And.intro (And.intro (And.intro (And.intro (And.intro (@Bool.not_true) (@Bool.not_false)) (And.intro (@lenK_eq) (@lenT_ref))) (And.intro (And.intro (@lenT_lst) (@lenT_nils)) (And.intro (@lenT_str) (@idxAddrA_eq)))) (And.intro (And.intro (And.intro (@idxT_slice) (@idxT_array)) (And.intro (@idxS_lst) (@idxS_ref))) (And.intro (And.intro (@idxAr_ptr) (@idxAr_fptr)) (And.intro (@idxAr_gptr) (And.intro (@ldT_gptr) (@ldG_some)))))) (And.intro (And.intro (And.intro (And.intro (@ev_glob) (@fadG_gptr)) (And.intro (@idxA_eq) (@idxVT_array))) (And.intro (And.intro (@idxVT_str) (@idxV_some)) (And.intro (@partA_eq) (@partB_one)))) (And.intro (And.intro (And.intro (@partB_agg) (@isAgg_bool)) (And.intro (@isAgg_int) (@isAgg_string))) (And.intro (And.intro (@isAgg_slice) (@isAgg_pointer)) (And.intro (@isAgg_map) (And.intro (@isAgg_struct) (@isAgg_array))))))) (And.intro (And.intro (And.intro (And.intro (And.intro (@ldK_eq) (@ldT_ptr)) (And.intro (@ldT_fptr) (@ldB_plain))) (And.intro (And.intro (@ldB_box) (@ldR_some)) (And.intro (@stK_eq) (@stT_ptr)))) (And.intro (And.intro (And.intro (@stB_plain1) (@stR_some)) (And.intro (@stB_box1) (@okCell_fv))) (And.intro (And.intro (@okCell_ref) (@okCell_ptr)) (And.intro (@okCell_mp) (And.intro (@okCell_fptr) (@effK_ite)))))) (And.intro (And.intro (And.intro (And.intro (@putK_ite) (@apK_eq)) (And.intro (@apT_slice) (@apE_slice))) (And.intro (And.intro (@apE_string) (@srcR_lst)) (And.intro (@srcR_nils) (And.intro (@srcR_ref) (@srcR_str))))) (And.intro (And.intro (And.intro (@srcB_plain) (@apX_rows)) (And.intro (@apX_cells) (@boxy_nils))) (And.intro (And.intro (@boxy_fv) (@boxy_ref)) (And.intro (@boxyB_plain) (And.intro (@boxyB_box) (@Bool.or_self)))))))) (And.intro (And.intro (And.intro (And.intro (And.intro (And.intro (@Bool.or_false) (@apS_nils)) (And.intro (@apS_ref) (@apR_plain))) (And.intro (And.intro (@eff_bs_eq) (@bsT_slice)) (And.intro (@bsE_0) (@bsE_1)))) (And.intro (And.intro (And.intro (@bsE_2) (@bsE_3)) (And.intro (@convA_eq) (@convT_int))) (And.intro (And.intro (@cvK_some) (@slA_eq)) (And.intro (@slT_slice) (And.intro (@slE_ref) (@slE_lst)))))) (And.intro (And.intro (And.intro (And.intro (@slE_nils) (@slT_str)) (And.intro (@bn_none) (@bn_int))) (And.intro (And.intro (@clK_eq) (@clT_slice)) (And.intro (@clE_ref) (And.intro (@clB_plain) (@eff_boxK))))) (And.intro (And.intro (And.intro (@boxK_fv) (@boxK_ref)) (And.intro (@boxK_ptr) (@boxK_agg))) (And.intro (And.intro (@eff_alK) (@alK_some)) (And.intro (@eff_mkT) (And.intro (@mkT_slice) (@mkE_int))))))) (And.intro (And.intro (And.intro (And.intro (And.intro (@fadA_eq) (@fldA_eq)) (And.intro (@fadT_struct) (@fldT_struct))) (And.intro (And.intro (@fadF_some) (@fldF_some)) (And.intro (@fadG_ptr) (@fadG_fptr)))) (And.intro (And.intro (And.intro (@fldG_agg) (@opK_build)) (And.intro (@eff_build_eq) (@buT_struct))) (And.intro (And.intro (@buT_array) (@buS_some)) (And.intro (@buA_some) (And.intro (@buF_some) (@buG_some)))))) (And.intro (And.intro (And.intro (And.intro (@placesOf_nil) (@placesOf_cons)) (And.intro (@plc_some) (@fillA_nil))) (And.intro (And.intro (@fillA_cons) (@fillP_some)) (And.intro (@fillQ_some) (And.intro (@cellsA_fv) (@cellsA_agg))))) (And.intro (And.intro (And.intro (@cellsA_ref) (@cellsA_ptr)) (And.intro (@cellsA_mp) (@Bool.and_self))) (And.intro (And.intro (@Bool.and_true) (@Int.toNat_natCast)) (And.intro (@Int.natCast_nonneg) (And.intro (@Nat.zero_mul) (@Nat.mul_one)))))))))
end Go.Abs
/- The step equations of straight code in one. -/
namespace Go.Abs
variable [Kn]
set_option linter.unusedSectionVars false
set_option linter.defProp false
end Go.Abs
/- Maps from numbers: the steps of a symbolic walk. -/
namespace Go.Abs
set_option linter.unusedVariables false
set_option linter.unusedSectionVars false
variable [Kn]
section
variable {P : Program} {ops : Array Oper} {Q : AEx → St → Prop} {st : St} (hs : Held) (i : Nat) (d : Option Tmp) (c : Cont)
theorem opK_mkm (T : TypeId) : opK P ops Q (.makeMap T none) hs i d c st = effK P ops Q (some (.mp st.h.length,st.h ++ [.map []],[])) hs i d c st := opK_of_eff hs i d c (fun _ => rfl) rfl rfl rfl
def mlK (P : Program) (X : TypeId) (h : List Blk) (vx vk : Option AV) (ok : Bool) : Option (AV × List Blk × List Nat) := match tiOf P X with
  | some { desc := .map K E,.. } => match tiOf P K,tiOf P E with
   | some ik,some _ => vx.bind fun mv => vk.bind fun kv => match kv with
    | .fv kf => if keyD ik.desc kf then (mapOf h mv).bind fun es => (findA kf es 0).bind fun r => (lookA P E ok r).map fun v => (v,h,[]) else none
    | _ => none
   | _,_ => none
  | _ => none
theorem opK_ml (X : TypeId) (x k : Operand) (ok : Bool) : opK P ops Q (.lookup X x k ok) hs i d c st = effK P ops Q (mlK P X st.h (ev st.t x) (ev st.t k) ok) hs i d c st := opK_of_eff hs i d c (fun _ => rfl) rfl rfl rfl
def mwK (P : Program) (X : TypeId) (h : List Blk) (vx vk vy : Option AV) : Option (AV × List Blk × List Nat) := match tiOf P X with
  | some { desc := .map K _,.. } => match tiOf P K with
   | some ik => vx.bind fun mv => vk.bind fun kv => vy.bind fun v => match mv,kv with
    | .mp id,.fv kf => match h[id]? with
     | some (.map es) => if keyD ik.desc kf then (findA kf es 0).map fun r => (.undef,h.set id (.map (putE kf v es r)),[id]) else none
     | _ => none
    | _,_ => none
   | none => none
  | _ => none
theorem opK_mw (X : TypeId) (x k y : Operand) : opK P ops Q (.mapUpdate X x k y) hs i d c st = effK P ops Q (mwK P X st.h (ev st.t x) (ev st.t k) (ev st.t y)) hs i d c st := opK_of_eff hs i d c (fun _ => rfl) rfl rfl rfl
end
def mlB (P : Program) (E : TypeId) (h : List Blk) (ok : Bool) (o : Option Blk) (n : Int) : Option (AV × List Blk × List Nat) := match o with
 | some (.map es) => (findA (.int .i64 n) es 0).bind fun r => (lookA P E ok r).map fun v => (v,h,[])
 | _ => none
theorem ml_red {P : Program} {X K E : TypeId} {a b a' b' : Nat} {z z' : Option (List FV)} {iE : TI} (hX : tiOf P X = some ⟨.map K E,a,b,z⟩) (hK : tiOf P K = some ⟨.int .i64,a',b',z'⟩) (hE : tiOf P E = some iE) (h : List Blk) (id : Nat) (n : Int) (ok : Bool) :
  mlK P X h (some (.mp id)) (some (.fv (.int .i64 n))) ok = mlB P E h ok h[id]? n := by
 simp only [mlK,hX,hK,hE,Option.bind_some,keyD,beq_self_eq_true,if_true,mapOf]
 unfold mlB
 cases h[id]? with
 | none => rfl
 | some k => cases k <;> rfl
theorem mlB_map {P : Program} {E : TypeId} (h : List Blk) (ok : Bool) (es : List (FV × AV)) (n : Int) : mlB P E h ok (some (.map es)) n = (findA (.int .i64 n) es 0).bind fun r => (lookA P E ok r).map fun v => (v,h,[]) := rfl
def mwB (h : List Blk) (o : Option Blk) (id : Nat) (n : Int) (v : AV) : Option (AV × List Blk × List Nat) := match o with
 | some (.map es) => (findA (.int .i64 n) es 0).map fun r => (.undef,h.set id (.map (putE (.int .i64 n) v es r)),[id])
 | _ => none
theorem mw_red {P : Program} {X K E : TypeId} {a b a' b' : Nat} {z z' : Option (List FV)} (hX : tiOf P X = some ⟨.map K E,a,b,z⟩) (hK : tiOf P K = some ⟨.int .i64,a',b',z'⟩) (h : List Blk) (id : Nat) (n : Int) (v : AV) :
  mwK P X h (some (.mp id)) (some (.fv (.int .i64 n))) (some v) = mwB h h[id]? id n v := by
 simp only [mwK,hX,hK,Option.bind_some,keyD,beq_self_eq_true,if_true]
 unfold mwB
 cases h[id]? with
 | none => rfl
 | some k => cases k <;> rfl
theorem mwB_map (h : List Blk) (es : List (FV × AV)) (id : Nat) (n : Int) (v : AV) : mwB h (some (.map es)) id n v = (findA (.int .i64 n) es 0).map fun r => (.undef,h.set id (.map (putE (.int .i64 n) v es r)),[id]) := rfl
/-! A map that holds yes at some numbers. -/
def yesM (n : Int) : FV × AV := (.int .i64 n,.fv (.bool true))
theorem find_yes (n : Int) : ∀ (ns : List Int) (i : Nat),findA (.int .i64 n) (ns.map yesM) i = some (if n ∈ ns then some (i + ns.findIdx (· == n),.fv (.bool true)) else none)
 | [],i => by simp [findA]
 | m :: ns,i => by
  have ih := find_yes n ns (i + 1)
  rw [List.map_cons,yesM,findA]
  simp only [sameK,if_true]
  by_cases h : n = m
  ·subst h
   simp [List.findIdx_cons]
  ·have hb : (n == m) = false := by simpa using h
   have hb2 : (m == n) = false := by simpa using fun e : m = n => h e.symm
   rw [hb]
   simp only [ih,List.mem_cons,h,false_or,List.findIdx_cons,hb2,cond_false]
   split
   ·simp; omega
   ·rfl
theorem sub_yes (σ : Nat → Option Sb) (ns : List Int) : (ns.map yesM).map (fun p => (p.1,subAny σ p.2)) = ns.map yesM := by
 rw [List.map_map]
 rfl
theorem subBlk_yes (σ : Nat → Option Sb) (ns : List Int) : subBlk σ (.map (ns.map yesM)) = .map (ns.map yesM) := by simp only [subBlk,sub_yes]
theorem yes_snoc (ns : List Int) (n : Int) : ns.map yesM ++ [(FV.int .i64 n,AV.fv (.bool true))] = (ns ++ [n]).map yesM := by simp [yesM]
end Go.Abs
