/- The pure operations of the abstract machine are the model's. -/
import Derived.Test.YtnhghoonlmoinaaGreatAbsA
import Derived.WalkKit
import Derived.DeepKeys
namespace Go.Abs
variable [Kn]
set_option linter.unusedSectionVars false
set_option linter.unusedVariables false
set_option linter.unusedSimpArgs false
theorem tiOf_spec {P : Program} {T : TypeId} {i : TI} (h : tiOf P T = some i) :
  P.underlying T = some i.desc ∧ ∃ info,P.info? T = some info ∧ info.size = i.size ∧ info.bytes = i.bytes ∧
   ∀ z,i.zero = some z → ∃ v,info.zero = some v ∧ ofCells v.cells.toList = some z := by
 unfold tiOf at h
 cases h1 : P.info? T with
 | none => simp [h1] at h
 | some info =>
  cases h2 : P.underlying T with
  | none => simp [h1,h2] at h
  | some d =>
   simp [h1,h2] at h
   subst h
   refine ⟨rfl,info,rfl,rfl,rfl,fun z hz => ?_⟩
   simp only [Option.bind_eq_some_iff] at hz
   exact hz
section
variable {P : Program}
theorem ti_under {T : TypeId} {i : TI} (h : tiOf P T = some i) (w : World) : (underlying T).run P w = .ok i.desc w :=
 run_underlying (tiOf_spec h).1 w
theorem ti_info {T : TypeId} {i : TI} (h : tiOf P T = some i) (w : World) : ∃ info,(typeInfo T).run P w = .ok info w ∧ info.size = i.size ∧ info.bytes = i.bytes ∧
   ∀ z,i.zero = some z → ∃ v,info.zero = some v ∧ ofCells v.cells.toList = some z := by
 obtain ⟨_,info,h1,h2⟩ := tiOf_spec h
 exact ⟨info,by simp [typeInfo,h1],h2⟩
theorem ti_size {T : TypeId} {i : TI} (h : tiOf P T = some i) (w : World) : (Go.sizeOf T).run P w = .ok i.size w := by
 obtain ⟨info,h1,h2,_⟩ := ti_info h w
 simp [Go.sizeOf,h1,h2]
theorem ti_isAgg {T : TypeId} {i : TI} (h : tiOf P T = some i) (w : World) : (isAgg T).run P w = .ok i.isAgg w := by
 unfold isAgg
 simp only [Sem.run_bind,ti_under h w,Result.andThen_ok]
 unfold TI.isAgg
 cases i.desc <;> rfl
theorem ti_zero {T : TypeId} {i : TI} (h : tiOf P T = some i) {z : List FV} (hz : i.zero = some z) (w : World) :
  ∃ v,(zeroValue T).run P w = .ok v w ∧ ofCells v.cells.toList = some z := by
 obtain ⟨info,h1,h2,h3,h4⟩ := ti_info h w
 obtain ⟨v,hv,hc⟩ := h4 z hz
 exact ⟨v,by simp [zeroValue,h1,hv],hc⟩
end
/-! ### Constants -/
theorem ofCell_rel {v : Value} {x : FV} (h : ofCell v = some x) (w : World) (S : Nat → Prop) : FRel w S v x := by
 unfold ofCell at h
 split at h <;> simp at h <;> subst h
 ·exact .bool _
 ·exact .int _ _
 ·rename_i s; exact FRel.str (w := w) (S := S) s.data.toList
 ·exact .nils
 ·exact .nil _ rfl
 ·exact .nil _ rfl
 ·exact .nil _ rfl
 ·exact .nil _ rfl
theorem ofCells_rel : ∀ {vs : List Value} {xs : List FV},ofCells vs = some xs → vs.length = xs.length ∧
  ∀ (w : World) (S : Nat → Prop) (i : Nat) (v : Value) (x : FV),vs[i]? = some v → xs[i]? = some x → FRel w S v x
 | [],xs,h => by
  simp [ofCells] at h; subst h
  exact ⟨rfl,fun w S i v x hv => by simp at hv⟩
 | v :: l,xs,h => by
  simp only [ofCells] at h
  split at h <;> simp at h
  rename_i x xs' h1 h2
  subst h
  obtain ⟨hl,hr⟩ := ofCells_rel h2
  refine ⟨by simp [hl],fun w S i u y hu hy => ?_⟩
  cases i with
  | zero => simp at hu hy; subst hu; subst hy; exact ofCell_rel h1 w S
  | succ i => simp at hu hy; exact hr w S i u y hu hy
theorem ofValue_rel {v : Value} {x : AV} (h : ofValue v = some x) (w : World) (S : Nat → Prop) (m : List Loc) : VRel w S m v x := by
 unfold ofValue at h
 split at h
 ·rename_i cs
  simp only [Option.map_eq_some_iff] at h
  obtain ⟨l,hl,rfl⟩ := h
  obtain ⟨hn,hr⟩ := ofCells_rel hl
  refine .agg cs _ (by simpa using hn) (fun i u y hu hy => ?_)
  simp only [List.getElem?_map,Option.map_eq_some_iff] at hy
  obtain ⟨z,hz,rfl⟩ := hy
  exact .fv _ _ (hr w S i u z (by simpa using hu) hz)
 ·rename_i cs
  split at h <;> simp at h
  subst h
  rename_i he
  have : cs = #[] := by simpa using he
  subst this
  exact .undef
 ·simp only [Option.map_eq_some_iff] at h
  obtain ⟨y,hy,rfl⟩ := h
  exact .fv _ _ (ofCell_rel hy w S)
/-! ### Frames -/
theorem LRel.get {w : World} {S : Nat → Prop} {m : List Loc} {vs : Array Value} {xs : List AV} (h : LRel w S m vs.toList xs) (i : Nat) :
  VRel w S m (vs.getD i undef) (xs.getD i .any) := by
 cases hx : xs[i]? with
 | none => simp [List.getD_eq_getElem?_getD,hx]; exact .any _
 | some x =>
  have hi : i < xs.length := (List.getElem?_eq_some_iff.1 hx).1
  have hi' : i < vs.size := by have := h.1; simp at this; omega
  have := h.2 i vs[i] x (by simp [hi']) hx
  simp [List.getD_eq_getElem?_getD,hx,hi']; exact this
theorem ev_rel {w : World} {S : Nat → Prop} {m : List Loc} {a : Act} {t : List AV} (h : LRel w S m a.tmps.toList t) {x : Operand} {y : AV} (he : ev t x = some y) :
  VRel w S m (a.eval x) y := by
 cases x with
 | tmp i => simp [ev] at he; subst he; exact h.get i
 | const v => exact ofValue_rel he w S m
 | func f => simp [ev] at he; subst he; exact .func f #[] [] rfl (fun i v x hv => by simp at hv)
 | global g => simp [ev] at he; subst he; exact .gptr g 0
theorem evs_rel {w : World} {S : Nat → Prop} {m : List Loc} {a : Act} {t : List AV} (h : LRel w S m a.tmps.toList t) :
  ∀ {xs : List Operand} {ys : List AV},evs t xs = some ys → LRel w S m (xs.map a.eval) ys
 | [],ys,he => by simp [evs] at he; subst he; exact ⟨rfl,fun i v x hv => by simp at hv⟩
 | x :: l,ys,he => by
  simp only [evs] at he
  split at he <;> simp at he
  rename_i y ys' h1 h2
  subst he
  have ih := evs_rel h h2
  refine ⟨by simpa using ih.1,fun i v z hv hz => ?_⟩
  cases i with
  | zero => simp at hv hz; subst hv; subst hz; exact ev_rel h h1
  | succ i => simp at hv hz; exact ih.2 i v z (by simpa using hv) hz
theorem VRel.cells {w : World} {S : Nat → Prop} {m : List Loc} {v : Value} {x : AV} (h : VRel w S m v x) {cs : List AV} (hc : cellsA x = some cs) :
  LRel w S m v.cells.toList cs := by
 have one : ∀ (v : Value) (x : AV),VRel w S m v x → v.cells = #[v] → LRel w S m v.cells.toList [x] := fun v x hv e => by
  rw [e]
  refine ⟨rfl,fun i u y hu hy => ?_⟩
  cases i with
  | zero => simp at hu hy; subst hu; subst hy; exact hv
  | succ i => simp at hu
 have fone : ∀ (v : Value) (x : FV),FRel w S v x → v.cells = #[v] := fun v x hf => by
  cases hf <;> first | rfl | (rename_i hn; cases v <;> simp [isNil] at hn <;> rfl)
 cases h with
 | fv v x hf => simp [cellsA] at hc; subst hc; exact one _ _ (.fv _ _ hf) (fone _ _ hf)
 | undef => simp [cellsA] at hc
 | any => simp [cellsA] at hc
 | anyb b => simp [cellsA] at hc; subst hc; exact one _ _ (.anyb b) rfl
 | agg vs cs' hn hr => simp [cellsA] at hc; subst hc; exact ⟨by simpa [Value.cells] using hn,fun i v x hv hx => hr i v x (by simpa [Value.cells] using hv) hx⟩
 | tuple => simp [cellsA] at hc
 | ref id es off len b o c hm hl hcap => simp [cellsA] at hc; subst hc; exact one _ _ (.ref id es off len b o c hm hl hcap) rfl
 | refz id es off a => simp [cellsA] at hc; subst hc; exact one _ _ (.refz id es off a) rfl
 | ptr id es r off b o hm => simp [cellsA] at hc; subst hc; exact one _ _ (.ptr id es r off b o hm) rfl
 | fptr ad row u hs hcc hr => simp [cellsA] at hc; subst hc; exact one _ _ (.fptr ad row u hs hcc hr) rfl
 | gptr g off => simp [cellsA] at hc; subst hc; exact one _ _ (.gptr g off) rfl
 | func f vs cs' hn hr => simp [cellsA] at hc; subst hc; exact one _ _ (.func f vs cs' hn hr) rfl
 | iface t v x hv => simp [cellsA] at hc; subst hc; exact one _ _ (.iface t v x hv) rfl
 | mp id b hm => simp [cellsA] at hc; subst hc; exact one _ _ (.mp id b hm) rfl
theorem toFs_rel {w : World} {S : Nat → Prop} {m : List Loc} : ∀ {vs : List Value} {cs : List AV} {fs : List FV},LRel w S m vs cs → toFs cs = some fs →
  vs.length = fs.length ∧ ∀ (i : Nat) (v : Value) (x : FV),vs[i]? = some v → fs[i]? = some x → FRel w S v x
 | vs,[],fs,h,hf => by
  simp [toFs] at hf; subst hf
  exact ⟨by simpa using h.1,fun i v x _ hx => by simp at hx⟩
 | vs,c :: cs,fs,h,hf => by
  cases vs with
  | nil => have := h.1; simp at this
  | cons v vs =>
   cases c <;> simp [toFs] at hf
   rename_i x
   obtain ⟨fs',hf',rfl⟩ := hf
   have ht : LRel w S m vs cs := ⟨by simpa using h.1,fun i u y hu hy => h.2 (i + 1) u y (by simpa using hu) (by simpa using hy)⟩
   obtain ⟨hl,hr⟩ := toFs_rel ht hf'
   refine ⟨by simp [hl],fun i u y hu hy => ?_⟩
   cases i with
   | zero =>
    simp at hu hy; subst hu; subst hy
    have h0 := h.2 0 v (.fv x) rfl rfl
    cases h0; assumption
   | succ i => simp at hu hy; exact hr i u y hu hy
theorem toFs_map (r : List FV) : toFs (r.map .fv) = some r := by
 induction r with
 | nil => rfl
 | cons x r ih => simp [toFs,ih]
theorem rowOf_rel {w : World} {S : Nat → Prop} {m : List Loc} {v : Value} {x : AV} (h : VRel w S m v x) {fs : List FV} (hf : rowOf x = some fs) : RowRel w S v fs := by
 unfold rowOf at hf
 simp only [Option.bind_eq_some_iff] at hf
 obtain ⟨cs,hc,hf⟩ := hf
 obtain ⟨hl,hr⟩ := toFs_rel (h.cells hc) hf
 exact ⟨by simpa using hl,fun j u x hu hx => hr j u x (by simpa using hu) hx⟩
/-- A cell's value is no struct. -/
theorem FRel.one {w : World} {S : Nat → Prop} {v : Value} {x : FV} (h : FRel w S v x) : v.cells = #[v] ∧ v.oneCell' = true := by
 cases h <;> first | exact ⟨rfl,rfl⟩ | (rename_i hn; cases v <;> simp [isNil] at hn <;> exact ⟨rfl,rfl⟩)
end Go.Abs
/- `==` and the operators. -/
namespace Go.Abs
variable [Kn]
set_option linter.unusedSectionVars false
set_option linter.unusedVariables false
set_option linter.unusedSimpArgs false
/-- The value of a scalar. -/
def conc : FV → Value
 | .bool b => .bool b
 | .int k n => .int k n
 | .str s => .string ⟨s.toArray⟩
 | .nils => .slice none 0 0
 | .nil v => v
 | .lst _ _ => undef
theorem conf_conc {w : World} {S : Nat → Prop} {c : CT} {v : Value} {x : FV} (hc : confC c x = true) (h : FRel w S v x) : v = conc x := by
 cases h <;> cases c <;> simp [confC] at hc <;> rfl
theorem conf_length : ∀ {cs : List CT} {r : List FV},conf cs r = true → cs.length = r.length
 | [],[],_ => rfl
 | _ :: _,_ :: _,h => by simp [conf] at h; simp [conf_length h.2]
 | [],_ :: _,h => by simp [conf] at h
 | _ :: _,[],h => by simp [conf] at h
theorem conf_get : ∀ {cs : List CT} {r : List FV},conf cs r = true → ∀ (i : Nat) (x : FV),r[i]? = some x → ∃ c,cs[i]? = some c ∧ confC c x = true
 | [],[],_,i,x,hx => by simp at hx
 | c :: cs,y :: r,h,i,x,hx => by
  simp [conf] at h
  cases i with
  | zero => simp at hx; subst hx; exact ⟨c,rfl,h.1⟩
  | succ i => simp at hx; obtain ⟨c',h1,h2⟩ := conf_get h.2 i x hx; exact ⟨c',by simpa using h1,h2⟩
 | [],_ :: _,h,_,_,_ => by simp [conf] at h
 | _ :: _,[],h,_,_,_ => by simp [conf] at h
theorem rows_conc {w : World} {S : Nat → Prop} {vs : List Value} {r : List FV} {cs : List CT} (hl : vs.length = r.length)
  (h : ∀ (i : Nat) (v : Value) (x : FV),vs[i]? = some v → r[i]? = some x → FRel w S v x) (hc : conf cs r = true) : vs = r.map conc := by
 apply List.ext_getElem?
 intro i
 rw [List.getElem?_map]
 cases hx : r[i]? with
 | none => simp; rw [List.getElem?_eq_none_iff] at hx; omega
 | some x =>
  have hi : i < vs.length := by rw [hl]; exact (List.getElem?_eq_some_iff.1 hx).1
  obtain ⟨c,_,hcc⟩ := conf_get hc i x hx
  rw [List.getElem?_eq_getElem hi]
  simp only [Option.map_some,Option.some.injEq]
  exact conf_conc hcc (h i _ x (by simp [hi]) hx)
theorem conf_append : ∀ {a b : List CT} {r : List FV},conf (a ++ b) r = true → conf a (r.take a.length) = true ∧ conf b (r.drop a.length) = true
 | [],b,r,h => by simp [conf]; simpa using h
 | c :: a,b,[],h => by simp [conf] at h
 | c :: a,b,x :: r,h => by
  simp [conf] at h
  obtain ⟨h1,h2⟩ := conf_append h.2
  exact ⟨by simp [conf,h.1,h1],by simpa using h2⟩
theorem eqR_append : ∀ (n : Nat) (r s : List FV),r.length = s.length → eqR r s = (eqR (r.take n) (s.take n) && eqR (r.drop n) (s.drop n))
 | 0,r,s,_ => by simp [eqR]
 | n + 1,[],[],_ => by simp [eqR]
 | n + 1,x :: r,y :: s,h => by simp [eqR]; rw [eqR_append n r s (by simpa using h)]; cases eqC x y <;> simp
 | n + 1,[],_ :: _,h => by simp at h
 | n + 1,_ :: _,[],h => by simp at h
/-- A value whose cells are these scalars. -/
def Shaped (i : TI) (x : Value) (r : List FV) : Prop :=
 (i.isAgg = true ∧ ∃ a,x = .agg a ∧ a.toList = r.map conc) ∨ (i.isAgg = false ∧ ∃ z,r = [z] ∧ x = conc z)
section
variable {P : Program} (w : World)
theorem run_part_conc {T : TypeId} {i : TI} (hi : tiOf P T = some i) (xs : Array Value) (off : Nat) (r : List FV) (hr : (xs.toList.drop off).take r.length = r.map conc) (hl : r.length = i.size)
  (h1 : i.isAgg = false → r.length = 1) : ∃ v,(part T xs off).run P w = .ok v w ∧ Shaped i v r := by
 unfold part
 simp only [Sem.run_bind,ti_isAgg hi w,Result.andThen_ok]
 cases ha : i.isAgg with
 | true =>
  simp only [if_true,Sem.run_bind,ti_size hi w,Result.andThen_ok,Sem.run_pure]
  refine ⟨_,rfl,.inl ⟨ha,_,rfl,?_⟩⟩
  simp only [Array.toList_extract,List.extract_eq_take_drop]
  rw [← hr,← hl]
  congr 1
  omega
 | false =>
  obtain ⟨x,rfl⟩ : ∃ x,r = [x] := by
   have := h1 ha
   match r,this with
   | [x],_ => exact ⟨x,rfl⟩
  have hx : xs[off]? = some (conc x) := by
   have : (xs.toList.drop off)[0]? = some (conc x) := by
    cases hd : xs.toList.drop off with
    | nil => rw [hd] at hr; simp at hr
    | cons y l => rw [hd] at hr; simp at hr; simp [hr]
   simpa using this
  simp only [Bool.false_eq_true,if_false,hx,Sem.run_pure]
  exact ⟨_,rfl,.inr ⟨ha,x,rfl,rfl⟩⟩
theorem cts_one {n : Nat} {T : TypeId} {c : List CT} (h : cts P n T = some c) {i : TI} (hi : tiOf P T = some i) : c.length = i.size ∧ (i.isAgg = false → c.length = 1) := by
 cases n with
 | zero => simp [cts] at h
 | succ n =>
  unfold cts at h
  rw [hi] at h
  obtain ⟨desc,size,bytes,zero⟩ := i
  split at h
  ·rename_i e; simp at e h; obtain ⟨rfl,rfl,rfl,rfl⟩ := e; subst h; simp
  ·rename_i e; simp at e h; obtain ⟨rfl,rfl,rfl,rfl⟩ := e; subst h; simp
  ·rename_i e; simp at e h; obtain ⟨rfl,rfl,rfl,rfl⟩ := e; subst h; simp
  ·rename_i e; simp at e; obtain ⟨rfl,rfl,rfl,rfl⟩ := e
   split at h
   ·simp at h
    obtain ⟨h1,rfl⟩ := h
    have : ∀ (k : Nat) (l : List CT),(flatN k l).length = k * l.length := fun k l => by
     induction k with
     | zero => simp [flatN]
     | succ k ih => simp [flatN,ih,Nat.succ_mul]; omega
    simp [this,h1,TI.isAgg]
   ·cases h
  ·rename_i e; simp at e; obtain ⟨rfl,rfl,rfl,rfl⟩ := e
   split at h
   ·cases h
   split at h
   ·simp at h
    obtain ⟨h1,rfl⟩ := h
    simp [h1,TI.isAgg]
   ·cases h
  ·cases h
/-- `==` goes by this at a type. -/
def EqTy (P : Program) (d : Nat) (T : TypeId) (c : List CT) : Prop :=
 ∀ (w : World) (i : TI) (r s : List FV) (x y : Value),tiOf P T = some i → conf c r = true → conf c s = true → Shaped i x r → Shaped i y s → (Op.equalIn d T x y).run P w = .ok (eqR r s) w
theorem run_eqFields_conc (d : Nat) (xs ys : Array Value) (rec : TypeId → Option (List CT)) (hrec : ∀ T c,rec T = some c → EqTy P d T c ∧ ∃ i,tiOf P T = some i ∧ c.length = i.size ∧ (i.isAgg = false → c.length = 1)) :
  ∀ (fs : List Field) (o : Nat) (c : List CT) (r s : List FV),ctFields rec o fs = some c → conf c r = true → conf c s = true →
   xs.toList.drop o = r.map conc → ys.toList.drop o = s.map conc → (Op.eqFields d xs ys fs).run P w = .ok (eqR r s) w
 | [],o,c,r,s,h,hr,hs,_,_ => by
  simp [ctFields] at h; subst h
  cases r <;> cases s <;> simp [conf] at hr hs
  simp [Op.eqFields,eqR]
 | f :: fs,o,c,r,s,h,hr,hs,hx,hy => by
  simp only [ctFields] at h
  split at h
  ·cases h
  rename_i hname
  split at h
  ·rename_i ho
   subst ho
   split at h
   ·rename_i c1 hc1
    simp only [Option.map_eq_some_iff] at h
    obtain ⟨c2,hc2,rfl⟩ := h
    obtain ⟨he,i,hi,hl,h1⟩ := hrec _ _ hc1
    obtain ⟨hr1,hr2⟩ := conf_append hr
    obtain ⟨hs1,hs2⟩ := conf_append hs
    have lr := conf_length hr1
    have ls := conf_length hs1
    have lrs : r.length = s.length := by rw [← conf_length hr,← conf_length hs]
    obtain ⟨a,pa,sa⟩ := run_part_conc w hi xs f.offset (r.take c1.length) (by rw [← lr,hx,List.map_take]) (by rw [← lr,hl]) (fun h => by rw [← lr]; exact h1 h)
    obtain ⟨b,pb,sb⟩ := run_part_conc w hi ys f.offset (s.take c1.length) (by rw [← ls,hy,List.map_take]) (by rw [← ls,hl]) (fun h => by rw [← ls]; exact h1 h)
    have e1 := he w i _ _ a b hi hr1 hs1 sa sb
    have e2 := run_eqFields_conc d xs ys rec hrec fs (f.offset + c1.length) c2 (r.drop c1.length) (s.drop c1.length) hc2 hr2 hs2
     (by rw [← List.drop_drop,hx,List.map_drop]) (by rw [← List.drop_drop,hy,List.map_drop])
    simp only [Op.eqFields,hname,ne_eq,not_false_eq_true,if_true,Sem.run_bind,pa,pb,e1,Result.andThen_ok,Sem.run_ite,Sem.run_pure]
    rw [eqR_append c1.length r s lrs]
    cases eqR (r.take c1.length) (s.take c1.length)
    ·simp
    ·simp [e2]
   ·cases h
  ·cases h
theorem run_eqItems_conc (d : Nat) (xs ys : Array Value) {e : TypeId} {c : List CT} {i : TI} (he : EqTy P d e c) (hi : tiOf P e = some i) (hl : c.length = i.size) (h1 : i.isAgg = false → c.length = 1) :
  ∀ (n o : Nat) (r s : List FV),conf (flatN n c) r = true → conf (flatN n c) s = true → xs.toList.drop (o * i.size) = r.map conc → ys.toList.drop (o * i.size) = s.map conc →
   (Op.eqItems d e i.size xs ys (List.range' o n)).run P w = .ok (eqR r s) w
 | 0,o,r,s,hr,hs,_,_ => by
  cases r <;> cases s <;> simp [conf,flatN] at hr hs
  simp [Op.eqItems,eqR]
 | n + 1,o,r,s,hr,hs,hx,hy => by
  simp only [flatN] at hr hs
  obtain ⟨hr1,hr2⟩ := conf_append hr
  obtain ⟨hs1,hs2⟩ := conf_append hs
  have lr := conf_length hr1
  have ls := conf_length hs1
  have lrs : r.length = s.length := by rw [← conf_length hr,← conf_length hs]
  obtain ⟨a,pa,sa⟩ := run_part_conc w hi xs (o * i.size) (r.take c.length) (by rw [← lr,hx,List.map_take]) (by rw [← lr,hl]) (fun h => by rw [← lr]; exact h1 h)
  obtain ⟨b,pb,sb⟩ := run_part_conc w hi ys (o * i.size) (s.take c.length) (by rw [← ls,hy,List.map_take]) (by rw [← ls,hl]) (fun h => by rw [← ls]; exact h1 h)
  have e1 := he w i _ _ a b hi hr1 hs1 sa sb
  have ho : (o + 1) * i.size = o * i.size + c.length := by rw [Nat.succ_mul,hl]
  have e2 := run_eqItems_conc d xs ys he hi hl h1 n (o + 1) (r.drop c.length) (s.drop c.length) hr2 hs2
   (by rw [ho,← List.drop_drop,hx,List.map_drop]) (by rw [ho,← List.drop_drop,hy,List.map_drop])
  simp only [List.range'_succ,Op.eqItems,Sem.run_bind,pa,pb,e1,Result.andThen_ok,Sem.run_ite,Sem.run_pure]
  rw [eqR_append c.length r s lrs]
  cases eqR (r.take c.length) (s.take c.length)
  ·simp
  ·simp [e2]
theorem EqTy.of_cts : ∀ (n d : Nat) (T : TypeId) (c : List CT),cts P n T = some c → EqTy P (d + n) T c
 | 0,d,T,c,h => by simp [cts] at h
 | n + 1,d,T,c,h => by
  intro w i r s x y hi hr hs hx hy
  have hc1 := cts_one h hi
  unfold cts at h
  rw [hi] at h
  have hu := (tiOf_spec hi).1
  obtain ⟨desc,size,bytes,zero⟩ := i
  have scalar : ∀ ct,c = [ct] → (TI.mk desc size bytes zero).isAgg = false → ∃ z z',r = [z] ∧ s = [z'] ∧ x = conc z ∧ y = conc z' ∧ confC ct z = true ∧ confC ct z' = true := by
   intro ct hct ha
   subst hct
   rcases hx with ⟨h',_⟩ | ⟨_,z,rfl,rfl⟩
   ·rw [ha] at h'; cases h'
   rcases hy with ⟨h',_⟩ | ⟨_,z',rfl,rfl⟩
   ·rw [ha] at h'; cases h'
   simp [conf] at hr hs
   exact ⟨z,z',rfl,rfl,rfl,rfl,hr,hs⟩
  split at h
  ·rename_i e; simp at e h; obtain ⟨rfl,rfl,rfl,rfl⟩ := e
   obtain ⟨z,z',rfl,rfl,rfl,rfl,h1,h2⟩ := scalar .bool h.symm rfl
   cases z <;> simp [confC] at h1
   cases z' <;> simp [confC] at h2
   rename_i a b
   show (Op.equalIn (d + n + 1) T _ _).run P w = _
   rw [show conc (FV.bool a) = .bool a from rfl,show conc (FV.bool b) = .bool b from rfl,run_equalIn_bool w _ T a b hu]
   simp [eqR,eqC]
  ·rename_i k _ _ e; simp at e h; obtain ⟨rfl,rfl,rfl,rfl⟩ := e
   obtain ⟨z,z',rfl,rfl,rfl,rfl,h1,h2⟩ := scalar _ h.symm rfl
   cases z <;> simp [confC] at h1
   cases z' <;> simp [confC] at h2
   rename_i k1 a k2 b
   subst h1; subst h2
   show (Op.equalIn (d + n + 1) T _ _).run P w = _
   rw [show conc (FV.int k a) = .int k a from rfl,show conc (FV.int k b) = .int k b from rfl,run_equalIn_int w _ T k k a b hu]
   simp [eqR,eqC]
  ·rename_i e; simp at e h; obtain ⟨rfl,rfl,rfl,rfl⟩ := e
   obtain ⟨z,z',rfl,rfl,rfl,rfl,h1,h2⟩ := scalar _ h.symm rfl
   cases z <;> simp [confC] at h1
   cases z' <;> simp [confC] at h2
   rename_i a b
   show (Op.equalIn (d + n + 1) T _ _).run P w = _
   rw [show conc (FV.str a) = .string ⟨a.toArray⟩ from rfl,show conc (FV.str b) = .string ⟨b.toArray⟩ from rfl,run_equalIn_string w _ T _ _ hu]
   simp [eqR,eqC,ByteArray.toList_eq]
  ·rename_i len e _ _ _ e'; simp at e'; obtain ⟨rfl,rfl,rfl,rfl⟩ := e'
   split at h
   case h_2 => cases h
   rename_i ce hce
   simp at h
   obtain ⟨h1,rfl⟩ := h
   rcases hx with ⟨_,xs,rfl,hxs⟩ | ⟨h',_⟩
   ·rcases hy with ⟨_,ys,rfl,hys⟩ | ⟨h',_⟩
    ·cases n with
     | zero => simp [cts] at hce
     | succ n =>
      have hie : ∃ ie,tiOf P e = some ie := by
       unfold cts at hce
       cases ht : tiOf P e with
       | none => simp [ht] at hce
       | some ie => exact ⟨ie,rfl⟩
      obtain ⟨ie,hie⟩ := hie
      obtain ⟨_,info,hinfo,hsz,_⟩ := tiOf_spec hie
      obtain ⟨l1,l2⟩ := cts_one hce hie
      rw [show d + (n + 1 + 1) = (d + (n + 1)) + 1 from rfl,run_equalIn_array w (d + (n + 1)) xs ys hu hinfo]
      have hcell : P.cellsOf e = ie.size := by simp [Program.cellsOf,hinfo,hsz]
      rw [hcell,List.range_eq_range']
      exact run_eqItems_conc w (d + (n + 1)) xs ys (EqTy.of_cts (n + 1) d e ce hce) hie l1 l2 len 0 r s hr hs (by simpa using hxs) (by simpa using hys)
    ·simp [TI.isAgg] at h'
   ·simp [TI.isAgg] at h'
  ·rename_i fs _ _ _ e'; simp at e'; obtain ⟨rfl,rfl,rfl,rfl⟩ := e'
   split at h
   ·cases h
   rename_i hst
   simp only [Bool.not_eq_true] at hst
   split at h
   case h_2 => cases h
   rename_i cf hcf
   simp at h
   obtain ⟨h1,rfl⟩ := h
   rcases hx with ⟨_,xs,rfl,hxs⟩ | ⟨h',_⟩
   ·rcases hy with ⟨_,ys,rfl,hys⟩ | ⟨h',_⟩
    ·have hf : P.fieldsOf T = fs := by simp [Program.fieldsOf,hu]
     rw [show d + (n + 1) = (d + n) + 1 from rfl,run_equalIn_struct w (d + n) T xs ys (by rw [hf]; exact hu) hst,hf]
     refine run_eqFields_conc w (d + n) xs ys (cts P n) (fun T' c' hT => ?_) fs.toList 0 cf r s hcf hr hs (by simpa using hxs) (by simpa using hys)
     refine ⟨EqTy.of_cts n d T' c' hT,?_⟩
     have hie : ∃ ie,tiOf P T' = some ie := by
      cases n with
      | zero => simp [cts] at hT
      | succ n =>
       unfold cts at hT
       cases ht : tiOf P T' with
       | none => simp [ht] at hT
       | some ie => exact ⟨ie,rfl⟩
     obtain ⟨ie,hie⟩ := hie
     exact ⟨ie,hie,cts_one hT hie⟩
    ·simp [TI.isAgg] at h'
   ·simp [TI.isAgg] at h'
  ·cases h
end
end Go.Abs
