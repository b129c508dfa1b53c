/- What is reckoned outright: the example that each law begins with. -/
import Derived.Test.YtnhghoonlmoinaaGreatTopPreci
import Derived.Test.YtnhghoonlmoinaaGreatTyTryzi
namespace Go.Abs
open Go.Proofs Go.RowKit
set_option linter.unusedVariables false
set_option linter.unusedSimpArgs false
set_option maxRecDepth 100000
theorem names_all : (Tryz.prog.funcs.toList.all fun fn => !(fn.name == "runtime.NumGoroutine")) = true := by kernel_rfl
theorem names_ok (f : FuncId) (fn : Func) (h : Tryz.prog.funcs[f]? = some fn) : (fn.name == "runtime.NumGoroutine") = false := by
 have h1 := List.all_eq_true.1 names_all fn (by
  have : Tryz.prog.funcs.toList[f]? = some fn := by simpa using h
  exact List.mem_of_getElem? this)
 simpa using h1
def rowInts : List (List FV) → Option (List Int)
 | [] => some []
 | [.int .i64 n] :: l => match rowInts l with
  | some zs => some (n :: zs)
  | none => none
 | _ => none
theorem rowInts_get : ∀ {rows : List (List FV)} {zs : List Int},rowInts rows = some zs → rows.length = zs.length ∧ rows = zs.map fun n => [.int .i64 n]
 | [],zs,h => by simp only [rowInts,Option.some.injEq] at h; subst h; exact ⟨rfl,rfl⟩
 | row :: rows,zs,h => by
  unfold rowInts at h
  split at h
  ·cases ‹_ = []›
  ·rename_i n l he
   simp only [List.cons.injEq] at he
   obtain ⟨rfl,rfl⟩ := he
   split at h
   ·rename_i zs' h'
    cases h
    obtain ⟨h1,h2⟩ := rowInts_get h'
    exact ⟨by simp [h1],by rw [List.map_cons,← h2]⟩
   ·cases h
  ·cases h
def hkPrec : Hook := fun args h => match args,h with
 | [.ref 0 1 off len,.fv (.int .i64 t)],[.plain 1 rows] => match Nat.ble (off + len) rows.length,Nat.ble len 100000,rowInts ((rows.drop off).take len) with
  | true,true,some zs => some (.ret (.fv (.int .i64 (lastLE zs t))),[.plain 1 rows])
  | _,_,_ => none
 | [.fv .nils,.fv (.int .i64 t)],[] => some (.ret (.fv (.int .i64 0)),[])
 | _,_ => none
theorem below_fr {w w' : World} {S : Nat → Prop} {m : List Loc} {h : List Blk} (hh : HRel w S m h) (hb : Below w.heap.size w w') : HRel w' S m h ∧ Fr w S m w' S m := by
 have hsame : ∀ b,b < w.heap.size → w'.heap[b]? = w.heap[b]? := hb.block
 have hmv : Move w S m w' S m := ⟨hb.size,hb.os,hb.tape,hb.output,fun h => Bool.noConfusion (h : false = true),fun b hb _ => hsame b hb,fun b _ hb => hsame b hb,fun b hb => SameShape.of_eq (hsame b hb),fun _ h => h,fun _ h => .inl h,fun i b o h => .inl ⟨i,o,h⟩,fun _ _ => rfl⟩
 refine ⟨⟨hh.len,fun i l x hl hx => ?_,hh.inj,hh.out,fun b hb' => Nat.lt_of_lt_of_le (hh.low b hb') hb.size,fun i b o h => Nat.lt_of_lt_of_le (hh.lowm i b o h) hb.size⟩,?_⟩
 ·exact (hh.blk i l x hl hx).move hmv hh.lowm (fun b o e => by subst e; exact hsame b (hh.lowm i b o hl))
 ·exact ⟨hb.size,hb.os,hb.tape,hb.output,fun b hb _ => hsame b hb,fun b _ hb => hsame b hb,fun b hb => SameShape.of_eq (hsame b hb),fun _ h => h,fun b h => .inl h,fun i b o h => .inl ⟨i,o,h⟩,fun _ _ => rfl,fun h => Bool.noConfusion (h : false = true)⟩
theorem prec_calls (a : Option Addr) (len cap : Nat) (t : Int) (zs : List Int) (hreach : zs.length * 8 ≤ 140737488351232) (w : World) (hI : Bkw.Ints w.heap.size w (.slice a len cap) zs) :
  Calls Tryz.prog 100 #[.slice a len cap,.int .i64 t] w fun e W' => e = .returned (.int .i64 (lastLE zs t)) ∧ Below w.heap.size w W' :=
 (callsIn_wide (n := 3)).1 (prec_in Fence.wide 3 trivial trivial trivial rfl (by omega) a len cap t zs hreach w hI)
theorem precName : (Tryz.f100.name == "runtime.NumGoroutine") = false := by decide +kernel
theorem hkPrec_ok (args : List AV) (h : List Blk) (o : AOut) (h' : List Blk) (e : hkPrec args h = some (o,h')) : Ok Tryz.prog 100 args h o h' := by
 have hent : Enter Tryz.prog 100 := ⟨Tryz.f100,Tryz.func100,precName,rfl⟩
 unfold hkPrec at e
 split at e
 ·rename_i off len t rows
  split at e
  ·rename_i zs h1 h2 h3
   cases e
   obtain ⟨e1,e2⟩ := rowInts_get h3
   have h1 := Nat.le_of_ble_eq_true h1
   have h2 := Nat.le_of_ble_eq_true h2
   have hlen : zs.length = len := by rw [← e1,List.length_take,List.length_drop]; omega
   refine ⟨hent,fun w S m cargs hG hh hl => ?_⟩
   obtain ⟨u,v,rfl,hu,hv⟩ := lrel2 hl
   obtain ⟨n,rfl⟩ : ∃ n,v = .int .i64 n := by
    cases hv with
    | fv _ _ hf => cases hf with
     | int k n => exact ⟨_,rfl⟩
   have hnt : n = t := by
    cases hv with
    | fv _ _ hf => cases hf with
     | int k n => rfl
   subst hnt
   have go : ∀ a c,Bkw.Ints w.heap.size w (.slice a len c) zs → Calls Tryz.prog 100 [Value.slice a len c,Value.int .i64 n].toArray w fun e w' => ∃ S' m',HRel w' S' m' [.plain 1 rows] ∧ ORel w' S' m' e (.ret (.fv (.int .i64 (lastLE zs n)))) ∧ Fr w S m w' S' m' := by
    intro a c hI
    refine Calls.mono (prec_calls a len c n zs (by omega) w hI) fun e w' hq => ?_
    obtain ⟨rfl,hb⟩ := hq
    obtain ⟨g1,g2⟩ := below_fr hh hb
    exact ⟨S,m,g1,.fv _ _ (.int _ _),g2⟩
   cases hu with
   | ref _ _ _ _ b o c hm hle hc =>
    refine go _ c (.inr ⟨b,o + off * 1,c,by rw [hlen],hh.lowm _ _ _ hm,fun j hj => ?_⟩)
    obtain ⟨hes,arr,T,ha,hcell⟩ := hh.blk 0 _ _ hm rfl
    have hrow : rows[off + j]? = some [.int .i64 zs[j]] := by
     have h4 : ((rows.drop off).take len)[j]? = some [.int .i64 zs[j]] := by rw [e2]; simp [hj]
     rw [List.getElem?_take] at h4
     split at h4
     ·rwa [List.getElem?_drop] at h4
     ·cases h4
    obtain ⟨u,hu,hf⟩ := hcell (off + j) 0 _ (.int .i64 zs[j]) hrow rfl
    have hu' : u = .int .i64 zs[j] := by cases hf; rfl
    have hix : o + off * 1 + j = o + (off + j) * 1 + 0 := by omega
    simp only [World.cell?,ha,hix,hu,hu',List.getElem?_eq_getElem hj,Option.getD_some]
    rfl
   | refz _ _ _ a =>
    exact go a 0 (.inl ⟨a,0,rfl,List.eq_nil_of_length_eq_zero hlen⟩)
  ·cases e
 ·rename_i t
  cases e
  refine ⟨hent,fun w S m cargs hG hh hl => ?_⟩
  obtain ⟨u,v,rfl,hu,hv⟩ := lrel2 hl
  obtain rfl := hu.nils_inv
  obtain ⟨n,rfl⟩ : ∃ n,v = .int .i64 n := by
   cases hv with
   | fv _ _ hf => cases hf with
    | int k n => exact ⟨_,rfl⟩
  refine Calls.mono (prec_calls none 0 0 n [] (by simp) w (.inl ⟨none,0,rfl,rfl⟩)) fun e w' hq => ?_
  obtain ⟨rfl,hb⟩ := hq
  obtain ⟨g1,g2⟩ := below_fr hh hb
  exact ⟨S,m,g1,.fv _ _ (.int _ _),g2⟩
 ·cases e
def hooks : List (FuncId × Hook) := [(100,hkPrec)]
theorem hooks_ok (f : FuncId) (k : Hook) (h : extTab hooks f = some k) (args : List AV) (hp : List Blk) (o : AOut) (h' : List Blk) (e : k args hp = some (o,h')) : Ok Tryz.prog f args hp o h' := by
 unfold hooks extTab at h
 split at h
 ·rename_i hf
  obtain rfl := Nat.eq_of_beq_eq_true hf
  cases h
  exact hkPrec_ok args hp o h' e
 ·simp [extTab] at h
def exts : List (FuncId × Ext) := [(162,.idxByte),(166,.load .u32),(175,.store),(178,.nop0),(179,.cas .i32),(180,.nop0),(181,.nop1),(183,.nop1),(184,.add .i32)]
theorem exts_ok (f : FuncId) (x : Ext) (h : extTab exts f = some x) : ExtOk Tryz.prog f x := by
 have step : ∀ {g : FuncId} {y : Ext} {l : List (FuncId × Ext)},extTab ((g,y) :: l) f = some x → (f = g ∧ y = x) ∨ extTab l f = some x := by
  intro g y l h
  unfold extTab at h
  split at h
  ·rename_i hf
   exact .inl ⟨Nat.eq_of_beq_eq_true hf,by cases h; rfl⟩
  ·exact .inr h
 rcases step h with ⟨rfl,rfl⟩ | h
 ·exact ⟨_,_,Tryz.func162,by decide +kernel,rfl,rfl,rfl,rfl⟩
 rcases step h with ⟨rfl,rfl⟩ | h
 ·exact ⟨_,_,Tryz.func166,by decide +kernel,rfl,rfl,rfl,rfl⟩
 rcases step h with ⟨rfl,rfl⟩ | h
 ·exact ⟨_,_,Tryz.func175,by decide +kernel,rfl,rfl,rfl,rfl⟩
 rcases step h with ⟨rfl,rfl⟩ | h
 ·exact ⟨_,_,Tryz.func178,by decide +kernel,rfl,rfl,rfl,_,rfl⟩
 rcases step h with ⟨rfl,rfl⟩ | h
 ·exact ⟨_,_,Tryz.func179,by decide +kernel,rfl,rfl,rfl,rfl⟩
 rcases step h with ⟨rfl,rfl⟩ | h
 ·exact ⟨_,_,Tryz.func180,by decide +kernel,rfl,rfl,rfl,_,rfl⟩
 rcases step h with ⟨rfl,rfl⟩ | h
 ·exact ⟨_,_,Tryz.func181,by decide +kernel,rfl,rfl,rfl,_,rfl⟩
 rcases step h with ⟨rfl,rfl⟩ | h
 ·exact ⟨_,_,Tryz.func183,by decide +kernel,rfl,rfl,rfl,_,rfl⟩
 rcases step h with ⟨rfl,rfl⟩ | h
 ·exact ⟨_,_,Tryz.func184,by decide +kernel,rfl,rfl,rfl,rfl⟩
 ·simp [extTab] at h
/-- What a run comes to is a contract of this program's. -/
theorem reckoned {n lf : Nat} {f : FuncId} {args : List AV} {h : List Blk} {o : AOut} {h' : List Blk} (e : goFn Tryz.prog exts hooks lf n f args h = some (o,h')) : Ok Tryz.prog f args h o h' :=
 goFn_ok mix names_ok exts_ok hooks_ok n f args h o h' e
end Go.Abs
