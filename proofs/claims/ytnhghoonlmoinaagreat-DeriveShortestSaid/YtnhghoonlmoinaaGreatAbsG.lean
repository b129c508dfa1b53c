/- A pure operation comes to what the abstract machine says. -/
import Derived.Test.YtnhghoonlmoinaaGreatAbsE
namespace Go.Abs
variable [Kn]
set_option linter.unusedSectionVars false
set_option linter.unusedVariables false
set_option linter.unusedSimpArgs false
section
variable {P : Program} {w : World} {S : Nat → Prop} {m : List Loc}
theorem bnd_sound {a : Act} {t : List AV} (ht : LRel w S m a.tmps.toList t) {d n : Nat} {x : Option Operand} (h : bnd t d x = some n) :
  (x = none ∧ n = d) ∨ ∃ y k i,x = some y ∧ a.eval y = .int k i ∧ 0 ≤ i ∧ i.toNat = n := by
 cases x with
 | none => simp [bnd] at h; exact .inl ⟨rfl,h.symm⟩
 | some y =>
  simp only [bnd,Option.bind_eq_some_iff] at h
  obtain ⟨v,hv,h⟩ := h
  obtain ⟨k,i,e,h0,hn⟩ := asN_inv h (ev_rel ht hv)
  exact .inr ⟨y,k,i,rfl,e,h0,hn⟩
theorem run_sliceBounds {a : Act} {t : List AV} (ht : LRel w S m a.tmps.toList t) {lo hi : Option Operand} {isSlice : Bool} {len cap l h : Nat}
  (hl : bnd t 0 lo = some l) (hh : bnd t len hi = some h) (h1 : l ≤ h) (h2 : h ≤ cap) (w' : World) :
  (Instr.sliceBounds isSlice len cap (lo.map a.eval) (hi.map a.eval) none).run P w' = .ok (l,h,cap) w' := by
 unfold Instr.sliceBounds
 rcases bnd_sound ht hl with ⟨rfl,rfl⟩ | ⟨y,k,i,rfl,e,h0,hn⟩ <;> rcases bnd_sound ht hh with ⟨rfl,rfl⟩ | ⟨y',k',i',rfl,e',h0',hn'⟩
 ·simp
 ·simp [e',run_sliceBound_ok h0' hn' h2]
 ·simp [e,run_sliceBound_ok h0 hn h1]
 ·simp [e,e',run_sliceBound_ok h0' hn' h2,run_sliceBound_ok h0 hn h1]
theorem extract_mk (s : List UInt8) (l h : Nat) : (⟨s.toArray⟩ : ByteArray).extract l h = ⟨((s.take h).drop l).toArray⟩ := by
 apply ByteArray.ext
 rw [ByteArray.data_extract]
 apply Array.ext'
 simp [List.drop_take]
theorem slice_sound {T : TypeId} {i : TI} (hi' : tiOf P T = some i) (hna : ∀ n e,i.desc ≠ .array n e) (hnp : ∀ e,i.desc ≠ .pointer e) {a : Act} {t : List AV} (ht : LRel w S m a.tmps.toList t)
  {x : AV} {v : Value} {lo hi : Option Operand} {n l h : Nat} {r : AV} (hx : VRel w S m v x) (hn : lenA x = some n) (hl : bnd t 0 lo = some l) (hh : bnd t n hi = some h) (hs : sliceA x l h = some r)
  (hd : (∃ e ie,i.desc = .slice e ∧ tiOf P e = some ie ∧ ((∃ id off len,x = .ref id ie.size off len) ∨ (∃ xs,x = .fv (.lst ie.size xs)) ∨ x = .fv .nils)) ∨ i.desc = .string ∧ ∃ s,x = .fv (.str s)) :
  ∃ u,(∀ w',(Instr.sliceAt T v (lo.map a.eval) (hi.map a.eval) none).run P w' = .ok u w') ∧ VRel w S m u r := by
 have hat : ∀ w',(Instr.sliceAt T v (lo.map a.eval) (hi.map a.eval) none).run P w' = (Instr.slice T v (lo.map a.eval) (hi.map a.eval) none).run P w' := fun w' => by
  simp only [Instr.sliceAt,Sem.run_bind,ti_under hi',Result.andThen_ok]
 simp only [hat]
 rcases hd with ⟨e,ie,hd,hie,hx'⟩ | ⟨hd,s,rfl⟩
 ·have run : ∀ (A : Option Addr) (len cap : Nat),v = .slice A len cap → n = len → l ≤ h → h ≤ cap → ∀ w',
    (Instr.slice T v (lo.map a.eval) (hi.map a.eval) none).run P w' = .ok (.slice (if cap = l then A else A.map (·.add (l * ie.size))) (h - l) (cap - l)) w' := by
   intro A len cap hv hlen h1 h2 w'
   subst hv
   subst hlen
   simp only [Instr.slice,Sem.run_bind,ti_under hi',hd,Result.andThen_ok,run_sliceBounds (P := P) ht hl hh h1 h2,ti_size hie,Sem.run_pure]
  rcases hx' with ⟨id,off,len,rfl⟩ | ⟨xs,rfl⟩ | rfl
  ·simp only [sliceA] at hs
   split at hs
   case isFalse => cases hs
   rename_i hb
   simp only [Option.some.injEq] at hs; subst hs
   simp only [lenA,Option.some.injEq] at hn; subst hn
   cases hx with
   | ref id es off len b o c hm hlc hcap =>
    refine ⟨_,fun w' => run _ _ _ rfl rfl hb.1 (by omega) w',?_⟩
    split
    ·rename_i hcl
     have e1 : h - l = 0 := by omega
     have e2 : c - l = 0 := by omega
     rw [e1,e2]
     exact .refz _ _ _ _
    ·simp only [Option.map_some,add_at]
     have := VRel.ref (w := w) (S := S) id ie.size (off + l) (h - l) b o (c - l) hm (by omega) (fun arr T fr ha => by
      have := hcap arr T fr ha
      have e : off + l + (c - l) = off + c := by omega
      rw [e]; exact this)
     rw [Nat.add_mul,← Nat.add_assoc] at this
     exact this
   | refz id es off A =>
    refine ⟨_,fun w' => run _ _ _ rfl rfl hb.1 (by omega) w',?_⟩
    have e0 : l = 0 := by omega
    have e1 : h = 0 := by omega
    subst e0; subst e1
    exact .refz _ _ _ _
  ·simp only [sliceA] at hs
   split at hs
   case isFalse => cases hs
   rename_i hb
   simp only [Option.some.injEq] at hs; subst hs
   simp only [lenA,Option.some.injEq] at hn
   cases hx with
   | fv _ _ hf =>
    cases hf with
    | lst A n' c es xs u ad hn' hcp hes ha hS hc hr =>
     have hcap : h ≤ c := by omega
     refine ⟨_,fun w' => run A n' c rfl (by omega) hb.1 hcap w',.fv _ _ ?_⟩
     refine .lst _ _ _ _ _ (fun i j => u (l + i) j) (ad.add (l * ie.size)) (by simp; omega) (by omega) (fun i row hrow => ?_) (fun hpos => ?_) (fun hpos => by rw [add_block]; exact hS (by omega)) (fun i j hi hj => ?_) (fun i j row x hrow hx => ?_)
     ·simp only [List.getElem?_drop,List.getElem?_take] at hrow
      split at hrow
      ·exact hes _ _ hrow
      ·cases hrow
     ·have := ha (by omega)
      subst this
      have : ¬ c = l := by omega
      simp [this]
     ·rw [add_add]
      have := hc (l + i) j (by omega) hj
      rw [Nat.add_mul,Nat.add_assoc] at this
      exact this
     ·simp only [List.getElem?_drop,List.getElem?_take] at hrow
      split at hrow
      ·exact hr _ _ _ _ hrow hx
      ·cases hrow
  ·simp only [sliceA] at hs
   split at hs
   case isFalse => cases hs
   rename_i hb
   simp only [Option.some.injEq] at hs; subst hs
   simp only [lenA,Option.some.injEq] at hn
   obtain rfl := hx.nils_inv
   refine ⟨_,fun w' => run none 0 0 rfl hn.symm (by omega) (by omega) w',?_⟩
   obtain ⟨rfl,rfl⟩ := hb
   exact .fv _ _ .nils
 ·simp only [sliceA] at hs
  split at hs
  case isFalse => cases hs
  rename_i hb
  simp only [Option.some.injEq] at hs; subst hs
  simp only [lenA,Option.some.injEq] at hn; subst hn
  obtain rfl := hx.str_inv
  refine ⟨_,fun w' => ?_,VRel.str_mk _⟩
  have hsz : (⟨s.toArray⟩ : ByteArray).size = s.length := by simp [ByteArray.size]
  simp [Instr.slice,ti_under hi',hd,hsz,run_sliceBounds (P := P) ht hl hh hb.1 hb.2,extract_mk]
theorem pure_sound {a : Act} {t : List AV} (ht : LRel w S m a.tmps.toList t) {o : Oper} {x : AV} (h : pureA P t o = some x) :
  ∃ v,(∀ w',(execOp a.eval o).run P w' = .ok (.value v) w') ∧ VRel w S m v x := by
 unfold pureA at h
 split at h
 ·rename_i y ho
  exact ⟨_,fun w' => by simp [execOp,ho],ev_rel ht h⟩
 ·rename_i y ho
  exact ⟨_,fun w' => by simp [execOp,ho],ev_rel ht h⟩
 ·rename_i y ho
  simp only [Option.bind_eq_some_iff] at h
  obtain ⟨v,hv,h⟩ := h
  split at h <;> simp at h
  subst h
  rename_i hs
  exact ⟨_,solid_nilCheck hs (ev_rel ht hv) ho rfl,ev_rel ht hv⟩
 ·rename_i op T y z yT ho
  simp only [Option.bind_eq_some_iff] at h
  obtain ⟨v,hv,u,hu,h⟩ := h
  obtain ⟨r,h1,h2⟩ := binA_sound h (ev_rel ht hv) (ev_rel ht hu)
  exact ⟨r,fun w' => by simp only [execOp,ho,Sem.run_bind]; have := h1 w'; simp only [Sem.run_bind] at this; rw [this]; rfl,h2⟩
 ·rename_i op T y ho
  simp only [Option.bind_eq_some_iff] at h
  obtain ⟨v,hv,h⟩ := h
  obtain ⟨r,h1,h2⟩ := unA_sound (P := P) h (ev_rel ht hv)
  exact ⟨r,fun w' => by simp [execOp,ho,h1],h2⟩
 ·rename_i s d y ho
  simp only [Option.bind_eq_some_iff] at h
  obtain ⟨v,hv,h⟩ := h
  obtain ⟨r,h1,h2⟩ := convA_sound h (ev_rel ht hv)
  exact ⟨r,fun w' => by simp [execOp,ho,h1],h2⟩
 ·rename_i T y ho
  split at h
  ·cases h
  ·rename_i i hna hi
   simp only [Option.map_eq_some_iff] at h
   obtain ⟨v,hv,rfl⟩ := h
   refine ⟨.iface T (a.eval y),fun w' => ?_,.iface _ _ _ (ev_rel ht hv)⟩
   simp only [execOp,ho,Instr.makeInterface,Sem.run_bind,ti_under hi,Result.andThen_ok]
   obtain ⟨desc,size,bytes,zero⟩ := i
   cases desc <;> first | rfl | exact absurd rfl (hna _ _ _ _)
  ·cases h
 ·rename_i f first caps ho
  split at h
  case isFalse => cases h
  rename_i hf
  simp only [Option.map_eq_some_iff] at h
  obtain ⟨vs,hv,rfl⟩ := h
  have he := evs_rel ht hv
  obtain rfl : first = #[] := Array.eq_empty_of_size_eq_zero hf
  refine ⟨.func (.func f) #[] (caps.map a.eval),fun w' => by simp [execOp,ho,Instr.makeFunc],?_⟩
  exact .func f _ vs (by simpa using he.1) (fun i v x hv hx => he.2 i v x (by simpa using hv) hx)
 ·rename_i T y lo hi ho
  have hex : ∀ w',(execOp a.eval o).run P w' = ((Instr.sliceAt T (a.eval y) (lo.map a.eval) (hi.map a.eval) none).run P w').andThen fun v w'' => .ok (.value v) w'' := fun w' => by
   simp [execOp,ho]
  split at h
  ·rename_i e sz by_ z hT
   split at h
   case h_2 => cases h
   rename_i ie hie
   simp only [Option.bind_eq_some_iff] at h
   obtain ⟨v,hv,h⟩ := h
   split at h
   case isFalse => cases h
   rename_i hes
   simp only [Option.bind_eq_some_iff] at h
   obtain ⟨n,hn,l,hl,hh,hhh,hs⟩ := h
   have hx := ev_rel ht hv
   have hd : (∃ id off len,v = .ref id ie.size off len) ∨ (∃ xs,v = .fv (.lst ie.size xs)) ∨ v = .fv .nils := by
    unfold esOk at hes
    split at hes
    ·simp at hes; subst hes; exact .inl ⟨_,_,_,rfl⟩
    ·simp at hes; subst hes; exact .inr (.inl ⟨_,rfl⟩)
    ·exact .inr (.inr rfl)
    ·cases hes
   obtain ⟨u,h1,h2⟩ := slice_sound hT (by simp) (by simp) ht hx hn hl hhh hs (.inl ⟨e,ie,rfl,hie,hd⟩)
   exact ⟨u,fun w' => by rw [hex,h1]; rfl,h2⟩
  ·rename_i sz by_ z hT
   simp only [Option.bind_eq_some_iff] at h
   obtain ⟨v,hv,h⟩ := h
   split at h
   case h_2 => cases h
   rename_i s
   simp only [Option.bind_eq_some_iff] at h
   obtain ⟨l,hl,hh,hhh,hs⟩ := h
   have hx := ev_rel ht hv
   obtain ⟨u,h1,h2⟩ := slice_sound hT (by simp) (by simp) ht hx (n := s.length) rfl hl hhh hs (.inr ⟨rfl,s,rfl⟩)
   exact ⟨u,fun w' => by rw [hex,h1]; rfl,h2⟩
  ·cases h
 ·rename_i T y f ho
  simp only [Option.bind_eq_some_iff] at h
  obtain ⟨⟨fd,i⟩,hf,h⟩ := h
  split at h
  case isTrue => cases h
  rename_i hsz
  simp only [Option.bind_eq_some_iff] at h
  obtain ⟨v,hv,h⟩ := h
  obtain ⟨ad,he,hr⟩ := addrA_sound h (ev_rel ht hv)
  unfold fieldOf at hf
  split at hf
  case h_2 => cases hf
  rename_i fs _ _ _ hT
  split at hf
  case h_2 => cases hf
  rename_i fd' hfd
  simp only [Option.map_eq_some_iff] at hf
  obtain ⟨i',hi,hf⟩ := hf
  simp only [Prod.mk.injEq] at hf
  obtain ⟨rfl,rfl⟩ := hf
  refine ⟨_,fun w' => ?_,hr⟩
  simp [execOp,ho,Instr.fieldAt,ti_under hT,hfd,he,Instr.sureAddr,fieldPlace,ti_size hi,hsz]
 ·rename_i T y f ho
  simp only [Option.bind_eq_some_iff] at h
  obtain ⟨⟨fd,i⟩,hf,v,hv,h⟩ := h
  split at h
  case h_2 => cases h
  rename_i cs
  obtain ⟨vs,he,hvs⟩ := (ev_rel ht hv).agg_inv
  unfold fieldOf at hf
  split at hf
  case h_2 => cases hf
  rename_i fs _ _ _ hT
  split at hf
  case h_2 => cases hf
  rename_i fd' hfd
  simp only [Option.map_eq_some_iff] at hf
  obtain ⟨i',hi,hf⟩ := hf
  simp only [Prod.mk.injEq] at hf
  obtain ⟨rfl,rfl⟩ := hf
  obtain ⟨u,h1,h2⟩ := partA_sound hi hvs h
  refine ⟨u,fun w' => ?_,h2⟩
  simp [execOp,ho,Instr.field,ti_under hT,hfd,he,asAgg,h1]
 ·rename_i T y j ho
  simp only [Option.bind_eq_some_iff] at h
  obtain ⟨v,hv,vj,hj,n,hn,h⟩ := h
  obtain ⟨k,hk⟩ := asI_inv hn (ev_rel ht hj)
  obtain ⟨u,h1,h2⟩ := idxAddrA_sound (k := k) (vi := a.eval j) h (ev_rel ht hv)
  exact ⟨u,fun w' => by simp [execOp,ho,hk,h1],h2⟩
 ·rename_i T y j ho
  simp only [Option.bind_eq_some_iff] at h
  obtain ⟨v,hv,vj,hj,n,hn,h⟩ := h
  obtain ⟨k,hk⟩ := asI_inv hn (ev_rel ht hj)
  obtain ⟨u,h1,h2⟩ := idxA_sound (k := k) h (ev_rel ht hv)
  exact ⟨u,fun w' => by simp [execOp,ho,hk,h1],h2⟩
 ·rename_i y j ho
  simp only [Option.bind_eq_some_iff] at h
  obtain ⟨v,hv,h⟩ := h
  split at h
  case h_2 => cases h
  rename_i vs
  have hx := ev_rel ht hv
  generalize hev : a.eval y = ve at hx
  cases hx with
  | tuple us _ hn hr =>
   have hlt : j < us.size := by rw [hn]; exact (List.getElem?_eq_some_iff.1 h).1
   refine ⟨us[j],fun w' => by simp [execOp,ho,hev,Instr.extract,hlt],hr j _ x (by simp [hlt]) h⟩
 ·rename_i as ts ho
  split at h
  case h_2 => cases h
  rename_i v T hv hT
  have he := evs_rel ht hv
  obtain ⟨z,hz⟩ : ∃ z,as = #[z] := by
   have := he.1
   simp at this
   match as,this with
   | ⟨[z]⟩,_ => exact ⟨z,rfl⟩
  subst hz
  have hx : VRel w S m (a.eval z) v := he.2 0 _ v (by simp) rfl
  have hts : ts = #[T] := by
   apply Array.ext'
   simpa using hT
  have hex : ∀ w',(execOp a.eval o).run P w' = ((Builtin.len_ ts o.type #[a.eval z]).run P w').andThen fun v w'' => .ok (.value v) w'' := fun w' => by
   simp [execOp,ho,resolve,invoke,builtin]
  generalize hev : a.eval z = va at hx hex
  split at h
  ·rename_i hi
   split at h
   ·cases h
   rename_i hns
   simp only [Option.map_eq_some_iff] at h
   obtain ⟨n,hn,rfl⟩ := h
   refine ⟨.int .i64 n,fun w' => ?_,VRel.int_mk ..⟩
   rw [hex,hts]
   have : ∃ A c,va = .slice A n c := by
    unfold lenA at hn
    split at hn <;> simp at hn
    ·exact absurd rfl (hns _)
    ·subst hn
     cases hx with
     | fv _ _ hf => cases hf with | lst A n c es xs u ad hn => subst hn; exact ⟨A,c,rfl⟩
    ·subst hn; obtain rfl := hx.nils_inv; exact ⟨none,0,rfl⟩
    ·subst hn
     cases hx with
     | ref => exact ⟨_,_,rfl⟩
     | refz => exact ⟨_,_,rfl⟩
   obtain ⟨A,c,rfl⟩ := this
   simp [Builtin.len_,ti_under hi,goInt]
  ·rename_i hi
   split at h
   case h_2 => cases h
   rename_i s
   simp only [Option.some.injEq] at h; subst h
   obtain rfl := hx.str_inv
   refine ⟨.int .i64 s.length,fun w' => ?_,VRel.int_mk ..⟩
   rw [hex,hts]
   have hsz : (⟨s.toArray⟩ : ByteArray).size = s.length := by simp [ByteArray.size]
   simp only [Builtin.len_,List.getElem?_toArray,List.getElem?_cons_zero,Sem.run_bind,ti_under hi,Result.andThen_ok,Sem.run_pure,goInt,hsz]
  ·cases h
 ·rename_i as ts ho
  split at h
  case h_2 => cases h
  rename_i T hv hts
  split at h
  case h_2 => cases h
  rename_i hi
  simp only [Option.some.injEq] at h; subst h
  have he := evs_rel ht hv
  obtain ⟨z,hz⟩ : ∃ z,as = #[z] := by
   have := he.1
   simp at this
   match as,this with
   | ⟨[z]⟩,_ => exact ⟨z,rfl⟩
  subst hz
  have htsa : ts = #[T] := by apply Array.ext'; simpa using hts
  subst htsa
  have e1 := (he.2 0 (a.eval z) _ (by simp) rfl).nils_inv
  refine ⟨.int .i64 0,fun w' => ?_,VRel.int_mk ..⟩
  simp [execOp,ho,resolve,invoke,builtin,e1,Builtin.cap_,ti_under hi,goInt]
 ·rename_i as _ ho
  split at h
  case h_2 => cases h
  rename_i k n k' n' hv
  split at h
  case isFalse => cases h
  rename_i hk; subst hk
  simp only [Option.some.injEq] at h; subst h
  have he := evs_rel ht hv
  obtain ⟨y,z,hz⟩ : ∃ y z,as = #[y,z] := by
   have := he.1
   simp at this
   match as,this with
   | ⟨[y,z]⟩,_ => exact ⟨y,z,rfl⟩
  subst hz
  have e1 := (he.2 0 (a.eval y) _ (by simp) rfl).int_inv
  have e2 := (he.2 1 (a.eval z) _ (by simp) rfl).int_inv
  refine ⟨_,fun w' => ?_,VRel.int_mk ..⟩
  simp [execOp,ho,resolve,invoke,builtin,e1,e2,Builtin.min_,Builtin.min2]
 ·rename_i as _ ho
  split at h
  case h_2 => cases h
  rename_i k n k' n' hv
  split at h
  case isFalse => cases h
  rename_i hk; subst hk
  simp only [Option.some.injEq] at h; subst h
  have he := evs_rel ht hv
  obtain ⟨y,z,hz⟩ : ∃ y z,as = #[y,z] := by
   have := he.1
   simp at this
   match as,this with
   | ⟨[y,z]⟩,_ => exact ⟨y,z,rfl⟩
  subst hz
  have e1 := (he.2 0 (a.eval y) _ (by simp) rfl).int_inv
  have e2 := (he.2 1 (a.eval z) _ (by simp) rfl).int_inv
  refine ⟨_,fun w' => ?_,VRel.int_mk ..⟩
  simp [execOp,ho,resolve,invoke,builtin,e1,e2,Builtin.max_,Builtin.max2]
 ·cases h
end
end Go.Abs
/- Operations that read blocks. -/
namespace Go.Abs
variable [Kn]
set_option linter.unusedSectionVars false
set_option linter.unusedVariables false
set_option linter.unusedSimpArgs false
section
variable {P : Program}
theorem run_loadCellsFrom (w : World) (a : Addr) (c : Nat → Value) : ∀ (n i : Nat) (acc : Array Value),(∀ j,j < n → w.cell? (a.add (i + j)) = some (c j)) →
  (loadCellsFrom a i n acc).run P w = .ok (acc ++ ((List.range n).map c).toArray) w
 | 0,i,acc,_ => by simp [loadCellsFrom]
 | n + 1,i,acc,h => by
  have h0 := h 0 (by omega)
  simp only [Nat.add_zero] at h0
  have ih := run_loadCellsFrom w a (fun j => c (j + 1)) n (i + 1) (acc.push (c 0)) (fun j hj => by
   have := h (j + 1) (by omega)
   rwa [show i + (j + 1) = i + 1 + j from by omega] at this)
  simp only [loadCellsFrom,Sem.run_bind,run_load,h0,Result.andThen_ok,ih]
  congr 1
  apply Array.ext'
  simp [List.range_succ_eq_map]
theorem run_loadCells (w : World) (a : Addr) (c : Nat → Value) (n : Nat) (h : ∀ j,j < n → w.cell? (a.add j) = some (c j)) :
  (loadCells a n).run P w = .ok ((List.range n).map c).toArray w := by
 have := run_loadCellsFrom (P := P) w a c n 0 #[] (fun j hj => by simpa using h j hj)
 simpa [loadCells] using this
theorem run_loadVar (w : World) {T : TypeId} {i : TI} (hi : tiOf P T = some i) (a : Addr) (c : Nat → Value) (n : Nat) (h : ∀ j,j < n → w.cell? (a.add j) = some (c j))
  (hn : i.isAgg = true → i.size ≤ n) (h1 : i.isAgg = false → 0 < n) :
  (loadVar T a).run P w = .ok (if i.isAgg then .agg ((List.range i.size).map c).toArray else c 0) w := by
 unfold loadVar
 simp only [Sem.run_bind,ti_isAgg hi w,Result.andThen_ok]
 cases ha : i.isAgg with
 | true =>
  simp only [if_true,Sem.run_bind,ti_size hi w,Result.andThen_ok]
  rw [run_loadCells w a c i.size (fun j hj => h j (by have := hn ha; omega))]
  rfl
 | false =>
  have := h 0 (h1 ha)
  have e : a.add 0 = a := rfl
  rw [e] at this
  simp [this]
/-- The value of a variable whose cells are related. -/
theorem part_of_cells {w : World} {S : Nat → Prop} {m : List Loc} {i : TI} {cs : List AV} {off : Nat} {r : AV} (h : partA i cs off = some r) (c : Nat → Value)
  (hc : ∀ (j : Nat) (x : AV),cs[off + j]? = some x → VRel w S m (c j) x) :
  VRel w S m (if i.isAgg then .agg ((List.range i.size).map c).toArray else c 0) r ∧ (i.isAgg = true → i.size ≤ cs.length - off) ∧ (i.isAgg = false → 0 < cs.length - off) := by
 unfold partA at h
 cases ha : i.isAgg with
 | true =>
  simp only [ha,if_true] at h
  split at h <;> simp at h
  subst h
  rename_i hle
  refine ⟨?_,fun _ => by omega,fun h => by cases h⟩
  simp only [if_true]
  refine LRel.toAgg ⟨by simp; omega,fun j v x hv hx => ?_⟩
  rw [List.getElem?_take] at hx
  split at hx
  case isFalse => cases hx
  rename_i hj
  rw [List.getElem?_drop] at hx
  simp [hj] at hv
  subst hv
  exact hc j x hx
 | false =>
  simp only [ha,Bool.false_eq_true,if_false] at h
  have hlt := (List.getElem?_eq_some_iff.1 h).1
  refine ⟨?_,(fun h => by cases h),fun _ => by omega⟩
  simp only [Bool.false_eq_true,if_false]
  exact hc 0 r (by simpa using h)
theorem ld_cells {w : World} {S : Nat → Prop} {m : List Loc} {T : TypeId} {i : TI} (hi : tiOf P T = some i) {cs : List AV} {off : Nat} {r : AV} (h : partA i cs off = some r) (ad : Addr)
  (hc : ∀ (j : Nat) (x : AV),cs[off + j]? = some x → ∃ u,w.cell? (ad.add j) = some u ∧ VRel w S m u x) :
  ∃ u,VRel w S m u r ∧ ∀ w',w'.heap[ad.block]? = w.heap[ad.block]? → (loadVar T ad).run P w' = .ok u w' := by
 have hcell : ∀ j,j < cs.length - off → ∃ u,w.cell? (ad.add j) = some u := fun j hj => by
  obtain ⟨u,hu,_⟩ := hc j cs[off + j] (by simp)
  exact ⟨u,hu⟩
 obtain ⟨h1,h2,h3⟩ := part_of_cells (w := w) (S := S) (m := m) h (fun j => (w.cell? (ad.add j)).getD undef) (fun j x hx => by
  obtain ⟨u,hu,hv⟩ := hc j x hx
  simpa [hu] using hv)
 refine ⟨_,h1,fun w' hw' => ?_⟩
 refine run_loadVar w' hi ad (fun j => (w.cell? (ad.add j)).getD undef) (cs.length - off) (fun j hj => ?_) h2 h3
 obtain ⟨u,hu⟩ := hcell j hj
 rw [cell?_of_same (w := w) (w' := w') (by rw [add_block]; exact hw'),hu]
 rfl
/-- A load: it comes to the same in any world in which that one block is as it was. -/
theorem ld_sound {w : World} {S : Nat → Prop} {m : List Loc} {h : List Blk} (hG : GOk P w S) (hh : HRel w S m h) {T : TypeId} {i : TI} (hi : tiOf P T = some i) {p r : AV} {v : Value} (hp : VRel w S m v p)
  (hl : ldA P i h p = some r) : ∃ ad u,v = .pointer (some ad) ∧ VRel w S m u r ∧ (∀ w',w'.heap[ad.block]? = w.heap[ad.block]? → (loadVar T ad).run P w' = .ok u w') ∧
   (match idOf p with
    | some id => ∃ o k,m[id]? = some (some (ad.block,o)) ∧ h[id]? = some k ∧ k.live = true
    | none => S ad.block) := by
 unfold ldA at hl
 split at hl
 ·rename_i id es r' off
  generalize hpp : AV.ptr id es r' off = pp at hp
  cases hp <;> simp at hpp
  rename_i b o hm
  obtain ⟨rfl,rfl,rfl,rfl⟩ := hpp
  generalize hid : h[id]? = k at hl
  split at hl
  ·rename_i es' rows
   split at hl
   case isFalse => cases hl
   rename_i he; subst he
   simp only [Option.bind_eq_some_iff] at hl
   obtain ⟨row,hrow,hl⟩ := hl
   obtain ⟨hes,arr,T',ha,hcell⟩ := hh.blk id _ _ hm hid
   obtain ⟨u,h1,h2⟩ := ld_cells (w := w) (S := S) (m := m) hi hl ⟨b,o + r' * es' + off,none⟩ (fun j x hx => by
    simp only [List.getElem?_map,Option.map_eq_some_iff] at hx
    obtain ⟨y,hy,rfl⟩ := hx
    obtain ⟨u,hu,hf⟩ := hcell r' (off + j) row y hrow hy
    refine ⟨u,?_,.fv _ _ hf⟩
    rw [add_at]
    rw [← Nat.add_assoc] at hu
    simp [World.cell?,ha,hu])
   exact ⟨_,u,rfl,h1,h2,o,_,hm,hid,rfl⟩
  ·rename_i cs
   obtain ⟨b',o',arr,T',hloc,ha,hcell⟩ := hh.blk id _ _ hm hid
   simp at hloc
   obtain ⟨rfl,rfl⟩ := hloc
   obtain ⟨u,h1,h2⟩ := ld_cells (w := w) (S := S) (m := m) hi hl ⟨b,o + r' * es + off,none⟩ (fun j x hx => by
    obtain ⟨u,hu,hf⟩ := hcell (r' * es + off + j) x hx
    refine ⟨u,?_,hf⟩
    rw [add_at]
    rw [← Nat.add_assoc,← Nat.add_assoc] at hu
    simp [World.cell?,ha,hu])
   exact ⟨_,u,rfl,h1,h2,o,_,hm,hid,rfl⟩
  ·cases hl
 ·rename_i row
  cases hp with
  | fptr ad _ u hs hc hr =>
   obtain ⟨u',h1,h2⟩ := ld_cells (w := w) (S := S) (m := m) hi hl ad (fun j x hx => by
    simp only [Nat.zero_add,List.getElem?_map,Option.map_eq_some_iff] at hx
    obtain ⟨y,hy,rfl⟩ := hx
    exact ⟨u j,hc j (List.getElem?_eq_some_iff.1 hy).1,.fv _ _ (hr j y hy)⟩)
   exact ⟨ad,u',rfl,h1,h2,hs⟩
 ·rename_i g off
  simp only [Option.bind_eq_some_iff] at hl
  obtain ⟨row,hrow,hl⟩ := hl
  cases hp with
  | gptr =>
   have hx := hG g row hrow
   generalize hv : Value.pointer (some ⟨g,0,none⟩) = v at hx
   cases hx with
   | fptr ad _ u hs hc hr =>
    simp only [Value.pointer.injEq,Option.some.injEq] at hv
    subst hv
    obtain ⟨u',h1,h2⟩ := ld_cells (w := w) (S := S) (m := m) hi hl ⟨g,off,none⟩ (fun j x hx => by
     simp only [List.getElem?_map,Option.map_eq_some_iff] at hx
     obtain ⟨y,hy,rfl⟩ := hx
     refine ⟨u (off + j),?_,.fv _ _ (hr (off + j) y hy)⟩
     have := hc (off + j) (List.getElem?_eq_some_iff.1 hy).1
     rw [add_at] at this ⊢
     rwa [Nat.zero_add] at this)
    exact ⟨_,u',rfl,h1,h2,hs⟩
 ·cases hl
theorem read_sound {w : World} {S : Nat → Prop} {m : List Loc} {h : List Blk} (hG : GOk P w S) (hh : HRel w S m h) {a : Act} {t : List AV} (ht : LRel w S m a.tmps.toList t) {o : Oper} {x : AV} {id : Option Nat}
  (hr : readA P t h o = some (x,id)) : ∃ v b,VRel w S m v x ∧ (∀ w',w'.heap[b]? = w.heap[b]? → (execOp a.eval o).run P w' = .ok (.value v) w') ∧
   (match id with
    | some id => ∃ o k,m[id]? = some (some (b,o)) ∧ h[id]? = some k ∧ k.live = true
    | none => S b) := by
 unfold readA at hr
 split at hr
 ·rename_i T y ho
  simp only [Option.bind_eq_some_iff,Option.map_eq_some_iff,Prod.mk.injEq] at hr
  obtain ⟨i,hi,p,hp,v,hv,rfl,rfl⟩ := hr
  obtain ⟨ad,u,h1,h2,h3,h4⟩ := ld_sound hG hh hi (ev_rel ht hp) hv
  refine ⟨u,ad.block,h2,fun w' hw' => ?_,h4⟩
  simp [execOp,ho,Instr.loadAt,h1,Instr.sureAddr,h3 w' hw']
 ·cases hr
end
end Go.Abs
