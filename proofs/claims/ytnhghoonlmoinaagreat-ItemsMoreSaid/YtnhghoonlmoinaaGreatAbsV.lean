/- From a library's contract of a call that turns a row of structs (sort functions) to the machine's. -/
import Derived.Test.YtnhghoonlmoinaaGreatAbsU
import Derived.Shelf.GgSortFunc.InsertionK
namespace Go.Abs
variable [Kn]
set_option linter.unusedSectionVars false
set_option linter.unusedVariables false
set_option linter.unusedSimpArgs false
/-- Cells that are numbers, texts, yes or no. -/
def scal : FV → Bool
 | .bool _ | .int _ _ | .str _ => true
 | _ => false
def valS : FV → Value
 | .bool b => .bool b
 | .int k n => .int k n
 | .str s => .string ⟨s.toArray⟩
 | _ => Go.undef
theorem valS_rel {w : World} {S : Nat → Prop} {x : FV} (h : scal x = true) : FRel w S (valS x) x := by
 cases x <;> simp [scal] at h <;> constructor
theorem valS_inv {w : World} {S : Nat → Prop} {x : FV} {v : Value} (h : scal x = true) (hv : FRel w S v x) : v = valS x := by
 cases hv <;> simp [scal] at h <;> rfl
theorem heap_put (w : World) (n b off : Nat) (F : Array Value) (os : Array Obj) {arr : Array Value} {T : TypeId} {fr : Nat × Nat} (hb : w.heap[b]? = some (.cells arr T fr)) (k : Nat) (hk : k < w.heap.size) :
  (Sort.grow (Sort.putRow id (Sort.ahead w n) b off F) os).heap[k]? = if k = b then some (.cells (Sort.putCells id off F arr) T fr) else w.heap[k]? := by
 have h1 : (Sort.grow (Sort.putRow id (Sort.ahead w n) b off F) os).heap = w.heap.modify b (Sort.onCells (Sort.putCells id off F)) ++ os := rfl
 rw [h1,Array.getElem?_append_left (by simpa using hk),Array.getElem?_modify]
 by_cases e : k = b
 ·subst e
  simp [hb,Sort.onCells]
 ·have : ¬ (b = k) := fun h => e h.symm
  simp [e,this]
/-- A row's values. -/
def encS {α : Type} (rf : α → List FV) (x : α) : List Value := (rf x).map valS
section
variable {α : Type} [Inhabited α] (rf : α → List FV) (es : Nat)
theorem flat_at (hrl : ∀ x,(rf x).length = es) (d : Array α) (r j : Nat) (hr : r < d.size) (hj : j < es) : (Sort.flatK (encS rf) es d)[r * es + j]? = some (valS ((rf d[r])[j]'(by rw [hrl]; exact hj))) := by
 have hlt : r * es + j < d.size * es := by
  have h1 : (r + 1) * es ≤ d.size * es := Nat.mul_le_mul_right es hr
  rw [Nat.succ_mul] at h1
  omega
 have hsz : r * es + j < (Sort.flatK (encS rf) es d).size := by simpa using hlt
 have h2 := Sort.get_flatK (encS rf) es d (r * es + j) hlt
 rw [getElem!_pos (Sort.flatK (encS rf) es d) (r * es + j) hsz] at h2
 rw [Array.getElem?_eq_getElem hsz,h2]
 have e1 : (r * es + j) / es = r := by rw [Nat.mul_comm,Nat.mul_add_div (by omega),Nat.div_eq_of_lt hj,Nat.add_zero]
 have e2 : (r * es + j) % es = j := by rw [Nat.mul_comm,Nat.mul_add_mod,Nat.mod_eq_of_lt hj]
 rw [e1,e2,getElem!_pos d r hr]
 have hl : j < (encS rf d[r]).length := by simp [encS,hrl,hj]
 rw [getElem!_pos _ j hl]
 simp [encS]
/-- From a library's contract of a call that turns a row. -/
theorem lift_rowK {P : Program} {f g : FuncId} {fn : Func} (hf : P.funcs[f]? = some fn) (hnm : (fn.name == "runtime.NumGoroutine") = false) (hbd : fn.body.isNone = false) (hes : 0 < es) (hrl : ∀ x, (rf x).length = es) (hsc : ∀ x, ∀ y ∈ rf x, scal y = true)
  (d d' : Array α) (hsz : d'.size = d.size) (hne : 0 < d.size)
  (hcall : ∀ (S : Nat → Prop) (b off cap : Nat) (w : World),GOk P w S → ¬ S b → (∀ k,S k → k < w.heap.size) → Sort.HoldsK (encS rf) es w b off d → b < w.heap.size → d.size ≤ cap → Calls P f #[.slice (some ⟨b,off,none⟩) d.size cap,.func (.func g) #[] #[]] w fun e w' =>
   e = .returned (.tuple #[]) ∧ ∃ n os,w' = Sort.grow (Sort.putRowK (encS rf) es (Sort.ahead w n) b off d') os) :
  Ok P f [.ref 0 es 0 d.size,.func g []] [.plain es (d.toList.map rf)] (.ret (.tuple [])) [.plain es (d'.toList.map rf)] := by
 refine ⟨⟨_,hf,hnm,hbd⟩,fun w S m cargs hG hh hl => ?_⟩
 obtain ⟨v,u,rfl⟩ : ∃ v u,cargs = [v,u] := by
  have := hl.1
  match cargs,this with
  | [v,u],_ => exact ⟨v,u,rfl⟩
 have hv := hl.2 0 v _ rfl rfl
 have hu := hl.2 1 u _ rfl rfl
 obtain rfl : u = .func (.func g) #[] #[] := by
  cases hu with
  | func f vs cs hn hr =>
   have : vs = #[] := Array.eq_empty_of_size_eq_zero (by simpa using hn)
   subst this
   rfl
 generalize hx : AV.ref 0 es 0 d.size = x0 at hv
 cases hv <;> simp at hx
 rename_i b o c hm hlc hcap
 ·obtain ⟨rfl,rfl,rfl,rfl⟩ := hx
  obtain ⟨hrows,arr,T,hb,hcell⟩ := hh.blk 0 _ _ hm rfl
  have hbs : b < w.heap.size := (Array.getElem?_eq_some_iff.1 hb).1
  have hcap' := hcap arr T _ hb
  have hbS : ¬ S b := hh.out 0 _ b o rfl rfl hm
  rw [Nat.zero_mul,Nat.add_zero] 
  have hdl : d.toList.length = d.size := by simp
  have hget : ∀ r j (hr : r < d.size) (hj : j < es),arr[o + (r * es + j)]? = some (valS ((rf d[r])[j]'(by rw [hrl]; exact hj))) := fun r j hr hj => by
   have hrj : j < (rf d[r]).length := by rw [hrl]; exact hj
   obtain ⟨u,hu,hf⟩ := hcell r j (rf d[r]) ((rf d[r])[j]) (by simp [hr]) (by simp [hrj])
   rw [valS_inv (hsc _ _ (List.getElem_mem hrj)) hf] at hu
   rw [← Nat.add_assoc]
   exact hu
  have hH : Sort.HoldsK (encS rf) es w b o d := fun t ht => by
   have ht' : t < d.size * es := by simpa using ht
   have hr : t / es < d.size := Nat.div_lt_of_lt_mul (by rwa [Nat.mul_comm])
   have hj : t % es < es := Nat.mod_lt _ hes
   have et : t / es * es + t % es = t := by rw [Nat.mul_comm]; exact Nat.div_add_mod t es
   have h1 := hget (t / es) (t % es) hr hj
   have h2 := flat_at rf es hrl d (t / es) (t % es) hr hj
   rw [et] at h1 h2
   refine ⟨?_,by simp [World.frozen?,hb]⟩
   rw [getElem!_pos _ t (by simpa using ht')]
   rw [Array.getElem?_eq_getElem (by simpa using ht')] at h2
   simp only [World.cell?,hb]
   simp only [id]
   rw [Option.some.inj h2]
   simpa using h1
  refine Calls.mono (hcall S b o c w hG hbS hh.low hH hbs hlc) fun e w' hq => ?_
  obtain ⟨rfl,n,os,rfl⟩ := hq
  have hheap := heap_put w n b o (Sort.flatK (encS rf) es d') os hb
  have hother : ∀ k,k < w.heap.size → k ≠ b → (Sort.grow (Sort.putRowK (encS rf) es (Sort.ahead w n) b o d') os).heap[k]? = w.heap[k]? := fun k hk hkb => by
   have := hheap k hk
   rw [if_neg hkb] at this
   exact this
  have hat : (Sort.grow (Sort.putRowK (encS rf) es (Sort.ahead w n) b o d') os).heap[b]? = some (.cells (Sort.putCells id o (Sort.flatK (encS rf) es d') arr) T (0,0)) := by
   have := hheap b hbs
   rw [if_pos rfl] at this
   exact this
  have hszw : w.heap.size ≤ (Sort.grow (Sort.putRowK (encS rf) es (Sort.ahead w n) b o d') os).heap.size := by
   show w.heap.size ≤ (w.heap.modify b _ ++ os).size
   simp
  have hfar : ∀ k,S k → k ≠ b := fun k hk e => hbS (e ▸ hk)
  have hps : (Sort.putCells id o (Sort.flatK (encS rf) es d') arr).size = arr.size := by simp [Sort.putCells]
  have hshape : ∀ k,k < w.heap.size → SameShape w (Sort.grow (Sort.putRowK (encS rf) es (Sort.ahead w n) b o d') os) k := fun k hk => by
   by_cases e : k = b
   ·subst e
    intro arr' T' fr' h
    rw [hat] at h
    simp only [Option.some.injEq,Obj.cells.injEq] at h
    obtain ⟨rfl,rfl,rfl⟩ := h
    exact ⟨arr,_,hb,hps.symm⟩
   ·exact SameShape.of_eq (hother k hk e)
  have hml : m.length = 1 := hh.len
  refine ⟨S,m,⟨hh.len,fun i l x hi hx => ?_,fun i j bi bj b' o1 o2 hij hi hj li lj mi mj => ?_,fun i bi b' o' hi li mi => ?_,fun k hk => Nat.lt_of_lt_of_le (hh.low k hk) hszw,fun i b' o' hi => Nat.lt_of_lt_of_le (hh.lowm i b' o' hi) hszw⟩,?_,
   ⟨hszw,rfl,rfl,rfl,fun k hk ho => hother k hk (fun e => ho ⟨0,o,e ▸ hm⟩),fun k hs hk => hother k hk (hfar k hs),hshape,fun _ h => h,fun _ h => .inl h,fun i b' o' h => .inl ⟨i,o',h⟩,fun _ _ => rfl,fun _ => Nat.le_add_right _ _⟩⟩
  ·cases i with
   | succ i => simp at hx
   | zero =>
    simp at hx; subst hx
    rw [hm] at hi; simp at hi; subst hi
    refine ⟨fun r row hrow => ?_,_,T,hat,fun r j row x hrow hx => ?_⟩
    ·simp only [List.getElem?_map,Option.map_eq_some_iff] at hrow
     obtain ⟨z,_,rfl⟩ := hrow
     exact hrl z
    ·simp only [List.getElem?_map,Option.map_eq_some_iff] at hrow
     obtain ⟨z,hz,rfl⟩ := hrow
     have hr : r < d'.size := by
      have := (List.getElem?_eq_some_iff.1 hz).1
      simpa using this
     have hz' : d'[r] = z := by
      have := (List.getElem?_eq_some_iff.1 hz).2
      simpa using this
     have hj : j < es := by
      have := (List.getElem?_eq_some_iff.1 hx).1
      rwa [hrl] at this
     have hxx : (rf d'[r])[j]'(by rw [hrl]; exact hj) = x := by
      have := (List.getElem?_eq_some_iff.1 hx).2
      subst hz'
      exact this
     have hfl := flat_at rf es hrl d' r j hr hj
     rw [hxx] at hfl
     have hrd : r < d.size := by omega
     have h1 := hget r j hrd hj
     have h2 : o + (r * es + j) < arr.size := (Array.getElem?_eq_some_iff.1 h1).1
     refine ⟨valS x,?_,valS_rel (hsc z x (List.mem_of_getElem? hx))⟩
     have hlt : r * es + j < (Sort.flatK (encS rf) es d').size := (Array.getElem?_eq_some_iff.1 hfl).1
     rw [Nat.add_assoc]
     simp only [Sort.putCells,Array.getElem?_mapIdx,h1,Option.map_some]
     rw [if_pos ⟨by omega,by omega⟩,show o + (r * es + j) - o = r * es + j from by omega,getElem!_pos (Sort.flatK (encS rf) es d') (r * es + j) hlt]
     rw [Array.getElem?_eq_getElem hlt] at hfl
     simp only [id]
     exact hfl
  ·cases i <;> cases j <;> simp at hi hj hij
  ·cases i with
   | succ i => simp at hi
   | zero => rw [hm] at mi; simp at mi; obtain ⟨rfl,rfl⟩ := mi; exact hbS
  ·exact .tuple _ _ rfl (fun i v x hv => by simp at hv)
 ·rw [hx.2.2.2] at hne
  simp at hne
end
omit [Kn] in
/-- A world that a call without blocks leaves: draws, and new blocks. -/
theorem world_of_fr {w w' : World} {S S' : Nat → Prop} {m' : List Loc} (h : @Fr ⟨true⟩ w S [] w' S' m') : ∃ q os,w' = Sort.grow (w.drewN q) os := by
 letI : Kn := ⟨true⟩
 refine ⟨w'.drawn - w.drawn,w'.heap.extract w.heap.size w'.heap.size,?_⟩
 have hs := h.size
 have hd := h.drawn rfl
 have ho := h.os
 have ht := h.tape
 have hu := h.output
 have hsame : ∀ b,b < w.heap.size → w'.heap[b]? = w.heap[b]? := fun b hb => h.same b hb (fun ⟨i,o,hi⟩ => by simp at hi)
 have hh : w'.heap = w.heap ++ w'.heap.extract w.heap.size w'.heap.size := by
  apply Array.ext_getElem?
  intro i
  rcases Nat.lt_or_ge i w.heap.size with h1 | h1
  ·rw [Array.getElem?_append_left h1,hsame i h1]
  ·rw [Array.getElem?_append_right h1,Array.getElem?_extract]
   rcases Nat.lt_or_ge i w'.heap.size with h2 | h2
   ·rw [if_pos (by omega),show w.heap.size + (i - w.heap.size) = i from by omega]
   ·rw [if_neg (by omega),Array.getElem?_eq_none h2]
 obtain ⟨heap',tape',drawn',os',output'⟩ := w'
 obtain ⟨heap,tape,drawn,os,output⟩ := w
 simp only at ho ht hu hd hh
 subst ho; subst ht; subst hu
 have e : drawn + (drawn' - drawn) = drawn' := by omega
 simp only [Sort.grow,World.drewN,e]
 rw [← hh]
end Go.Abs
