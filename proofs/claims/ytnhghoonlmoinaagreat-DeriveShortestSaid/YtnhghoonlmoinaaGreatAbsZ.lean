/- Saying less of a state: cells that are all frozen values stand as rows again; a block is frozen where it lies in cells. -/
import Derived.Test.YtnhghoonlmoinaaGreatAbsO
import Derived.WalkKit
import Derived.ProofKit
import Derived.OpenShut
import Derived.SizedLaws
namespace Go.Abs
variable [Kn]
set_option linter.unusedSectionVars false
set_option linter.unusedVariables false
set_option linter.unusedSimpArgs false
theorem flatten_get {α : Type} {es : Nat} : ∀ {rows : List (List α)},(∀ row ∈ rows,row.length = es) → ∀ {r j : Nat} {row : List α} {x : α},rows[r]? = some row → row[j]? = some x → rows.flatten[r * es + j]? = some x
 | [],_,r,j,row,x,h,_ => by simp at h
 | r0 :: rows,hl,r,j,row,x,h,hx => by
  have h0 : r0.length = es := hl r0 (by simp)
  rw [List.flatten_cons]
  cases r with
  | zero =>
   simp only [List.getElem?_cons_zero,Option.some.injEq] at h
   subst h
   rw [Nat.zero_mul,Nat.zero_add,List.getElem?_append_left (List.getElem?_eq_some_iff.1 hx).1]
   exact hx
  | succ r =>
   have e : (r + 1) * es + j = r0.length + (r * es + j) := by rw [h0,Nat.succ_mul]; omega
   rw [e,List.getElem?_append_right (by omega),Nat.add_sub_cancel_left]
   exact flatten_get (fun row hr => hl row (List.mem_cons_of_mem _ hr)) (by simpa using h) hx
theorem le_plain {n0 : Nat} {st : St} (i es : Nat) (rows : List (List FV)) (hi : st.h[i]? = some (.box (thaw rows))) (hl : ∀ row ∈ rows,row.length = es) : Le n0 st { st with h := st.h.set i (.plain es rows) } := by
 intro w0 S0 m0 w S m a hn hr
 have hlt : i < st.h.length := (List.getElem?_eq_some_iff.1 hi).1
 have get : ∀ (k : Nat) (b : Blk),(st.h.set i (.plain es rows))[k]? = some b → (k = i ∧ b = .plain es rows) ∨ (k ≠ i ∧ st.h[k]? = some b) := fun k b hk => by
  rw [List.getElem?_set] at hk
  split at hk
  ·rename_i e
   simp only [hlt,if_true,Option.some.injEq] at hk
   exact .inl ⟨e.symm,hk.symm⟩
  ·rename_i e
   exact .inr ⟨fun h => e h.symm,hk⟩
 refine ⟨S,m,⟨by simpa using hr.heap.len,fun k l b hm hb => ?_,fun k j bi bj b o o' hne hk hj li lj mi mj => ?_,fun k bi b o hk li mi => ?_,hr.heap.low,hr.heap.lowm⟩,hr.tmps,hr.defs,hr.fr⟩
 ·rcases get k b hb with ⟨rfl,rfl⟩ | ⟨_,hb'⟩
  ·obtain ⟨b,o,arr,T,rfl,ha,hc⟩ := hr.heap.blk k l _ hm hi
   refine ⟨fun r row hrow => hl row (List.mem_of_getElem? hrow),arr,T,ha,fun r j row x hrow hx => ?_⟩
   have h1 : (thaw rows)[r * es + j]? = some (.fv x) := by
    simp only [thaw,List.getElem?_map,flatten_get hl hrow hx,Option.map_some]
   obtain ⟨u,hu,hv⟩ := hc (r * es + j) (.fv x) h1
   refine ⟨u,by rw [Nat.add_assoc]; exact hu,?_⟩
   cases hv with
   | fv _ _ h => exact h
  ·exact hr.heap.blk k l b hm hb'
 ·rcases get k bi hk with ⟨rfl,rfl⟩ | ⟨_,hk'⟩ <;> rcases get j bj hj with ⟨rfl,rfl⟩ | ⟨_,hj'⟩
  ·exact hne rfl
  ·exact hr.heap.inj k j _ bj b o o' hne hi hj' rfl lj mi mj
  ·exact hr.heap.inj k j bi _ b o o' hne hk' hi li rfl mi mj
  ·exact hr.heap.inj k j bi bj b o o' hne hk' hj' li lj mi mj
 ·rcases get k bi hk with ⟨rfl,rfl⟩ | ⟨_,hk'⟩
  ·exact hr.heap.out k _ b o hi rfl mi
  ·exact hr.heap.out k bi b o hk' li mi
end Go.Abs
/- What a row hands, of any type made of numbers, truths, texts, slices, structs and arrays, as the machine's frozen cells. -/
namespace Go.Abs
variable [Kn]
set_option linter.unusedSectionVars false
set_option linter.unusedVariables false
set_option linter.unusedSimpArgs false
inductive Sh where
 | bool
 | int (k : IntKind)
 | str
 | slc (bytes : Nat) (row : List Sh)
/-- A cell of that shape. -/
inductive CF : Sh → FV → Prop
 | bool (b : Bool) : CF .bool (.bool b)
 | int (k : IntKind) (n : Int) (h : (Lit.int k n).wf = true) : CF (.int k) (.int k n)
 | str (s : List UInt8) (h : s.length ≤ reachBytes) : CF .str (.str s)
 | slc (bytes es : Nat) (sh : List Sh) (xs : List (List FV)) (he : es = sh.length) (hl : xs.length * bytes ≤ reachBytes)
   (hn : ∀ (i : Nat) (row : List FV),xs[i]? = some row → row.length = sh.length)
   (hr : ∀ (i j : Nat) (row : List FV) (s : Sh) (x : FV),xs[i]? = some row → sh[j]? = some s → row[j]? = some x → CF s x) : CF (.slc bytes sh) (.lst es xs)
def fieldsSh (sh : TypeId → Option (List Sh)) (P : Program) : Nat → List Field → Option (List Sh)
 | _,[] => some []
 | o,f :: l => if f.offset = o then match sh f.type with
   | some r => if r.length = P.cellsOf f.type then (fieldsSh sh P (o + r.length) l).map (r ++ ·) else none
   | none => none
  else none
/-- A type's cells. -/
def shOf (P : Program) : Nat → TypeId → Option (List Sh)
 | 0,_ => none
 | n + 1,T => match P.underlying T with
  | some .bool => some [.bool]
  | some (.int k) => some [.int k]
  | some .string => some [.str]
  | some (.slice e) => match shOf P n e with
   | some r => if r.length = P.cellsOf e ∧ 0 < r.length then some [.slc (P.bytesOf e) r] else none
   | none => none
  | some (.struct fs) => match fieldsSh (shOf P n) P 0 fs.toList with
   | some r => if r.length = P.cellsOf T then some r else none
   | none => none
  | some (.array len e) => match shOf P n e with
   | some r => if r.length = P.cellsOf e ∧ len * r.length = P.cellsOf T then some (flatN len r) else none
   | none => none
  | _ => none
section
variable {H : Type} {enc : TypeId × Value → H} {P : Program} {w : World} {base : Nat} {spare : Nat → Bool} {held : Bool}
/-- The cells of a value, frozen, of that shape. -/
def RowCF (w : World) (cs : List Value) (sh : List Sh) (row : List FV) : Prop :=
 cs.length = sh.length ∧ row.length = sh.length ∧ (∀ (j : Nat) (u : Value) (x : FV),cs[j]? = some u → row[j]? = some x → FRel w (fun b => b < w.heap.size) u x) ∧
  ∀ (j : Nat) (s : Sh) (x : FV),sh[j]? = some s → row[j]? = some x → CF s x
theorem RowCF.one {u : Value} {s : Sh} {x : FV} (h : FRel w (fun b => b < w.heap.size) u x) (hc : CF s x) : RowCF w [u] [s] [x] := by
 refine ⟨rfl,rfl,fun j u' x' hu hx => ?_,fun j s' x' hs hx => ?_⟩
 ·cases j with
  | zero => simp at hu hx; subst hu; subst hx; exact h
  | succ j => simp at hu
 ·cases j with
  | zero => simp at hs hx; subst hs; subst hx; exact hc
  | succ j => simp at hs
theorem RowCF.append {cs cs' : List Value} {sh sh' : List Sh} {r r' : List FV} (h : RowCF w cs sh r) (h' : RowCF w cs' sh' r') : RowCF w (cs ++ cs') (sh ++ sh') (r ++ r') := by
 obtain ⟨a1,a2,a3,a4⟩ := h
 obtain ⟨b1,b2,b3,b4⟩ := h'
 refine ⟨by simp [a1,b1],by simp [a2,b2],fun j u x hu hx => ?_,fun j s x hs hx => ?_⟩
 ·rw [List.getElem?_append] at hu hx
  rw [a1] at hu
  rw [a2] at hx
  split at hu
  ·rename_i hl; rw [if_pos hl] at hx; exact a3 j u x hu hx
  ·rename_i hl; rw [if_neg hl] at hx; exact b3 _ u x hu hx
 ·rw [List.getElem?_append] at hs hx
  rw [a2] at hx
  split at hs
  ·rename_i hl; rw [if_pos hl] at hx; exact a4 j s x hs hx
  ·rename_i hl; rw [if_neg hl] at hx; exact b4 _ s x hs hx
theorem RowCF.nil : RowCF w [] [] [] := ⟨rfl,rfl,fun j u x hu => by simp at hu,fun j s x hs => by simp at hs⟩
theorem exists_rows {α : Type} {Q : Nat → α → Prop} : ∀ n,(∀ i,i < n → ∃ x,Q i x) → ∃ z : List α,z.length = n ∧ ∀ i x,z[i]? = some x → Q i x
 | 0,_ => ⟨[],rfl,fun i x h => by simp at h⟩
 | n + 1,h => by
  obtain ⟨z,hz,hq⟩ := exists_rows n fun i hi => h i (by omega)
  obtain ⟨x,hx⟩ := h n (by omega)
  refine ⟨z ++ [x],by simp [hz],fun i y hy => ?_⟩
  rw [List.getElem?_append] at hy
  split at hy
  ·exact hq i y hy
  ·rename_i hn
   have hi : i = n := by
    have := (List.getElem?_eq_some_iff.1 hy).1
    simp at this
    omega
   subst hi
   simp [hz] at hy
   subst hy
   exact hx
theorem addr_add (a : Addr) (n m : Nat) : (a.add n).add m = a.add (n + m) := add_add a n m
theorem weights_all {e : TypeId} : ∀ {ds : List (DataW H)} {d : DataW H},d ∈ ds → ∀ n ∈ d.weights P e,n ∈ DataW.weightsAll P e ds
 | d0 :: ds,d,hd,n,hn => by
  simp only [DataW.weightsAll,List.mem_append]
  rcases List.mem_cons.1 hd with rfl | hd
  ·exact .inl hn
  ·exact .inr (weights_all hd n hn)
 | [],_,hd,_,_ => by simp at hd
theorem opened : ∀ (n fuel : Nat) (T : TypeId) (cs : List Value) (x : DataW H × List MemPlace) (sh : List Sh),shOf P n T = some sh → DataW.trod enc P w base spare held fuel T cs = some x →
  (∀ k ∈ x.1.weights P T,k ≤ reachBytes) → ∃ row,RowCF w cs sh row
 | 0,_,_,_,_,_,h,_,_ => by simp [shOf] at h
 | n + 1,fuel,T,cs,x,sh,h,hd,hw => by
  unfold shOf at h
  split at h
  ·rename_i hu
   cases h
   obtain ⟨b,rfl,rfl⟩ := DataW.trod_bool hu hd
   exact ⟨[.bool b],.one (.bool b) (.bool b)⟩
  ·rename_i k hu
   cases h
   obtain ⟨b,rfl,rfl,hwf⟩ := DataW.trod_int hu hd
   exact ⟨[.int k b],.one (.int k b) (.int k b hwf)⟩
  ·rename_i hu
   cases h
   obtain ⟨s,rfl,rfl,hs⟩ := DataW.trod_string hu hd
   refine ⟨[.str s.data.toList],.one (.str s.data.toList) (.str _ ?_)⟩
   exact hw _ (by simp [DataW.weights])
  ·rename_i e hu
   split at h
   ·rename_i r hr
    split at h
    ·rename_i hlen0
     obtain ⟨hlen,hpos0⟩ := hlen0
     cases h
     rcases DataW.trod_slice hu hd with ⟨rfl,rfl⟩ | ⟨a,len,cap,elems,rest,m,rfl,rfl,rfl,hb,hl,hm,hel,hget,hsp,hsf⟩
     ·exact ⟨[.lst r.length []],.one (.lst none 0 0 r.length [] (fun _ _ => Go.undef) ⟨0,0,none⟩ rfl (Nat.le_refl _) (fun i row hrow => by simp at hrow) (fun h => by omega) (fun h => by omega) (fun i j hi => by omega) (fun i j row x hrow => by simp at hrow))
       (.slc _ _ r [] rfl (by simp) (fun i row hrow => by simp at hrow) (fun i j row s x hrow => by simp at hrow))⟩
     ·have each : ∀ i,i < len → ∃ row,∃ cs',w.cells? base (a.add (i * P.cellsOf e)) (P.cellsOf e) = some cs' ∧ RowCF w cs' r row := fun i hi => by
       have h1 := hget i hi
       rw [List.getElem?_eq_getElem (by omega),Option.bind_eq_some_iff] at h1
       obtain ⟨cs',hcs,hy⟩ := h1
       obtain ⟨row,hrow⟩ := opened n m e cs' _ r hr hy (fun k hk => hw k (by
        simp only [DataW.weights,hu]
        refine List.mem_cons_of_mem _ (List.mem_append_left _ (weights_all (d := (elems[i]'(by omega)).1) ?_ k hk))
        exact List.mem_map.2 ⟨_,List.getElem_mem _,rfl⟩))
       exact ⟨row,cs',hcs,hrow⟩
      obtain ⟨z,hz,hq⟩ := exists_rows len each
      have hbytes : len * P.bytesOf e ≤ reachBytes := by
       have h1 := hw ((elems.length + rest.length) * P.bytesOf e) (by simp [DataW.weights,hu])
       refine Nat.le_trans (Nat.mul_le_mul_right _ ?_) h1
       omega
      refine ⟨[.lst r.length z],.one (.lst (some a) len cap r.length z (fun i j => ((w.cell? (a.add (i * r.length + j))).getD Go.undef)) a hz hl (fun i row hrow => ?_) (fun _ => rfl) (fun hpos => ?_) (fun i j hi hj => ?_) (fun i j row x hrow hx => ?_))
       (.slc _ _ r z rfl (by rw [hz]; exact hbytes) (fun i row hrow => ?_) (fun i j row s x hrow hs hx => ?_))⟩
      ·obtain ⟨cs',_,h2⟩ := hq i row hrow
       exact h2.2.1
      ·show a.block < w.heap.size
       obtain ⟨row,cs',hcs,h2⟩ := each 0 hpos
       obtain ⟨_,h3,h4⟩ := World.cells?_some hcs
       have h5 := h4 0 (by omega)
       rw [List.getElem?_eq_getElem (by omega)] at h5
       have := block_of_cell? h5
       rwa [add_block,add_block] at this
      ·obtain ⟨row,hrow⟩ : ∃ row,z[i]? = some row := ⟨z[i]'(by omega),List.getElem?_eq_getElem (by omega)⟩
       obtain ⟨cs',hcs,h2⟩ := hq i row hrow
       obtain ⟨_,h3,h4⟩ := World.cells?_some hcs
       have h5 := h4 j (by omega)
       rw [addr_add,List.getElem?_eq_getElem (by omega),← hlen] at h5
       rw [h5]; rfl
      ·obtain ⟨cs',hcs,h2⟩ := hq i row hrow
       obtain ⟨_,h3,h4⟩ := World.cells?_some hcs
       have hj : j < r.length := by
        have := (List.getElem?_eq_some_iff.1 hx).1
        rw [h2.2.1] at this; exact this
       have h5 := h4 j (by omega)
       rw [addr_add,List.getElem?_eq_getElem (by omega),← hlen] at h5
       rw [h5]
       exact h2.2.2.1 j _ x (List.getElem?_eq_getElem (by omega)) hx
      ·obtain ⟨cs',_,h2⟩ := hq i row hrow
       exact h2.2.1
      ·obtain ⟨cs',_,h2⟩ := hq i row hrow
       exact h2.2.2.2 j s x hs hx
    ·cases h
   ·cases h
  ·rename_i fs hu
   split at h
   ·rename_i r hr
    split at h
    ·rename_i hlen
     cases h
     obtain ⟨xs,m,rfl,rfl,hcl,hxl,hget⟩ := DataW.trod_struct hu hd
     have go : ∀ (l : List Field) (k o : Nat) (r : List Sh),l = fs.toList.drop k → fieldsSh (shOf P n) P o l = some r → o + r.length = cs.length → ∃ row,RowCF w (cs.drop o) r row := by
      intro l
      induction l with
      | nil =>
       intro k o r hl hf ho
       simp only [fieldsSh,Option.some.injEq] at hf
       subst hf
       refine ⟨[],?_⟩
       rw [List.drop_eq_nil_of_le (by simp at ho; omega)]
       exact .nil
      | cons f l ih =>
       intro k o r hl hf ho
       unfold fieldsSh at hf
       split at hf
       ·rename_i hoff
        split at hf
        ·rename_i rf hrf
         split at hf
         ·rename_i hcf
          rw [Option.map_eq_some_iff] at hf
          obtain ⟨r2,hr2,rfl⟩ := hf
          have hkf : fs[k]? = some f := by
           have h1 : fs.toList[k]? = some f := by
            have h2 := congrArg (fun l => l[0]?) hl
            simpa [List.getElem?_drop] using h2.symm
           simpa using h1
          have hkl : k < xs.length := by
           have := (Array.getElem?_eq_some_iff.1 hkf).1
           omega
          have h3 := hget k f hkf
          rw [List.getElem?_eq_getElem hkl] at h3
          obtain ⟨row1,h4⟩ := opened n m f.type _ _ rf hrf h3 (fun q hq => hw q (by
           simp only [DataW.weights,hu]
           refine DataW.weights_mem_each (j := k) (t := f.type) (d := (xs[k]'hkl).1) ?_ ?_ q hq
           ·simp [hkf]
           ·simp [hkl]))
          obtain ⟨row2,h5⟩ := ih (k + 1) (o + rf.length) r2 (by
           have h2 := congrArg List.tail hl
           simpa [List.tail_drop] using h2) hr2 (by simp at ho; omega)
          refine ⟨row1 ++ row2,?_⟩
          have e : cs.drop o = (cs.drop f.offset).take (P.cellsOf f.type) ++ cs.drop (o + rf.length) := by
           rw [hoff,← hcf,← List.drop_drop,List.take_append_drop]
          rw [e]
          exact h4.append h5
         ·cases hf
        ·cases hf
       ·cases hf
     obtain ⟨row,hrow⟩ := go fs.toList 0 0 _ rfl hr (by omega)
     exact ⟨row,by simpa using hrow⟩
    ·cases h
   ·cases h
  ·rename_i len e hu
   split at h
   ·rename_i r hr
    split at h
    ·rename_i hlen
     cases h
     obtain ⟨xs,m,rfl,rfl,hcl,hxl,hget⟩ := DataW.trod_array hu hd
     have go : ∀ (k i : Nat),i + k = len → ∃ row,RowCF w ((cs.drop (i * r.length)).take (k * r.length)) (flatN k r) row := by
      intro k
      induction k with
      | zero => intro i hi; exact ⟨[],by simpa [flatN] using .nil⟩
      | succ k ih =>
       intro i hi
       have hil : i < xs.length := by omega
       have h3 := hget i (by omega)
       rw [List.getElem?_eq_getElem hil,← hlen.1] at h3
       obtain ⟨row1,h4⟩ := opened n m e _ _ r hr h3 (fun q hq => hw q (by
        simp only [DataW.weights,hu]
        exact weights_all (d := (xs[i]'hil).1) (List.mem_map.2 ⟨_,List.getElem_mem _,rfl⟩) q hq))
       obtain ⟨row2,h5⟩ := ih (i + 1) (by omega)
       refine ⟨row1 ++ row2,?_⟩
       have e1 : (cs.drop (i * r.length)).take ((k + 1) * r.length) = (cs.drop (i * r.length)).take r.length ++ (cs.drop ((i + 1) * r.length)).take (k * r.length) := by
        rw [Nat.succ_mul,Nat.add_comm (k * r.length),List.take_add,List.drop_drop,Nat.succ_mul]
       rw [e1]
       exact h4.append h5
     obtain ⟨row,hrow⟩ := go len 0 (by omega)
     refine ⟨row,?_⟩
     have e2 : (cs.drop (0 * r.length)).take (len * r.length) = cs := by
      rw [Nat.zero_mul,List.drop_zero,hlen.2,← hcl,List.take_length]
     rw [e2] at hrow
     exact hrow
    ·cases h
   ·cases h
  ·cases h
/-! ### From shapes to lists -/
def RowC (sh : List Sh) (row : List FV) : Prop := row.length = sh.length ∧ ∀ (j : Nat) (s : Sh) (x : FV),sh[j]? = some s → row[j]? = some x → CF s x
theorem RowCF.rowC {cs : List Value} {sh : List Sh} {row : List FV} (h : RowCF w cs sh row) : RowC sh row := ⟨h.2.1,h.2.2.2⟩
theorem RowC.nil_inv {row : List FV} (h : RowC [] row) : row = [] := List.eq_nil_of_length_eq_zero h.1
theorem RowC.cons_inv {s : Sh} {sh : List Sh} {row : List FV} (h : RowC (s :: sh) row) : ∃ x rest,row = x :: rest ∧ CF s x ∧ RowC sh rest := by
 obtain ⟨hl,hc⟩ := h
 cases row with
 | nil => simp at hl
 | cons x rest => exact ⟨x,rest,rfl,hc 0 s x rfl rfl,by simpa using hl,fun j s' y hs hy => hc (j + 1) s' y (by simpa using hs) (by simpa using hy)⟩
theorem CF.bool_inv {x : FV} (h : CF .bool x) : ∃ b,x = .bool b := by cases h; exact ⟨_,rfl⟩
theorem CF.int_inv {k : IntKind} {x : FV} (h : CF (.int k) x) : ∃ n,x = .int k n ∧ (Lit.int k n).wf = true := by cases h; exact ⟨_,rfl,by assumption⟩
theorem CF.str_inv {x : FV} (h : CF .str x) : ∃ s,x = .str s ∧ s.length ≤ reachBytes := by cases h; exact ⟨_,rfl,by assumption⟩
theorem CF.slc_inv {α : Type} {b : Nat} {sh : List Sh} {x : FV} (f : α → List FV) (W : α → Prop) (h : CF (.slc b sh) x) (hf : ∀ row,RowC sh row → ∃ a,row = f a ∧ W a) :
  ∃ l : List α,x = .lst sh.length (l.map f) ∧ (∀ a ∈ l,W a) ∧ l.length * b ≤ reachBytes := by
 cases h with
 | slc _ es _ xs he hl hn hr =>
  subst he
  have : ∀ xs : List (List FV),(∀ (i : Nat) (row : List FV),xs[i]? = some row → RowC sh row) → ∃ l : List α,xs = l.map f ∧ ∀ a ∈ l,W a := by
   intro xs
   induction xs with
   | nil => intro _; exact ⟨[],rfl,fun a ha => by simp at ha⟩
   | cons row xs ih =>
    intro h
    obtain ⟨l,rfl,hw⟩ := ih fun i row hi => h (i + 1) row (by simpa using hi)
    obtain ⟨a,rfl,ha⟩ := hf row (h 0 row rfl)
    exact ⟨a :: l,rfl,fun b hb => by
     rcases List.mem_cons.1 hb with rfl | hb
     ·exact ha
     ·exact hw b hb⟩
  obtain ⟨l,rfl,hw⟩ := this xs fun i row hi => ⟨hn i row hi,fun j s x hs hx => hr i j row s x hi hs hx⟩
  exact ⟨l,rfl,hw,by simpa using hl⟩
theorem wf_i64 {n : Int} (h : (Lit.int .i64 n).wf = true) : -9223372036854775808 ≤ n ∧ n ≤ 9223372036854775807 := by
 simpa [Lit.wf,IntKind.min,IntKind.max,IntKind.bits,IntKind.signed] using h
/-- A struct or a slice that is handed. -/
theorem handed_agg {T : TypeId} {b0 : Nat} {v : Value} {d : DataW H} {ps : List MemPlace} {n : Nat} {sh : List Sh} {fs : Array Field} (hu : P.underlying T = some (.struct fs)) (hs : shOf P n T = some sh) (hval : Value.okWide P w .any b0 T v)
  (hd : DataW.Trod enc P w base spare held T v d ps) (hw : ∀ k ∈ d.weights P T,k ≤ reachBytes) : ∃ row,RowC sh row ∧ VRel w (fun b => b < w.heap.size) [] v (.agg (row.map .fv)) := by
 simp only [Value.okWide,hu] at hval
 obtain ⟨cs,rfl,hsz,_⟩ := hval
 obtain ⟨fuel,hf⟩ := hd
 obtain ⟨row,hrow⟩ := opened n fuel T _ (d,ps) sh hs hf hw
 refine ⟨row,hrow.rowC,.agg _ _ ?_ (fun i u x hu hx => ?_)⟩
 ·have h1 := hrow.1
  have h2 := hrow.2.1
  simp only [Value.cells,Array.length_toList] at h1
  simp [h1,h2]
 ·simp only [List.getElem?_map,Option.map_eq_some_iff] at hx
  obtain ⟨y,hy,rfl⟩ := hx
  exact .fv _ _ (hrow.2.2.1 i u y (by simpa [Value.cells] using hu) hy)
end
end Go.Abs
