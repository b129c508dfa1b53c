/- What is reckoned outright: the example that each law begins with. -/
import Derived.Test.YtlifmaooikhhoaaGreatDoorAbsGo
import Derived.Test.YtlifmaooikhhoaaGreatDoorLxE2
import Derived.Test.YtlifmaooikhhoaaGreatDoorTyTryzx
namespace Go.Abs
open Go.Proofs Go.RowKit
set_option linter.unusedVariables false
set_option linter.unusedSimpArgs false
set_option maxRecDepth 100000
theorem names_all : (Tryz.prog.funcs.toList.all fun fn => !(fn.name == "runtime.NumGoroutine")) = true := by kernel_rfl
theorem names_ok (f : FuncId) (fn : Func) (h : Tryz.prog.funcs[f]? = some fn) : (fn.name == "runtime.NumGoroutine") = false := by
  have h1 := List.all_eq_true.1 names_all fn (by
    have : Tryz.prog.funcs.toList[f]? = some fn := by simpa using h
    exact List.mem_of_getElem? this)
  simpa using h1
def rowInts : List (List FV) → Option (List Int)
  | [] => some []
  | [.int .i64 n] :: l => match rowInts l with
    | some zs => some (n :: zs)
    | none => none
  | _ => none
theorem rowInts_get : ∀ {rows : List (List FV)} {zs : List Int}, rowInts rows = some zs → rows.length = zs.length ∧ rows = zs.map fun n => [.int .i64 n]
  | [], zs, h => by simp only [rowInts, Option.some.injEq] at h; subst h; exact ⟨rfl, rfl⟩
  | row :: rows, zs, h => by
    unfold rowInts at h
    split at h
    · cases ‹_ = []›
    · rename_i n l he
      simp only [List.cons.injEq] at he
      obtain ⟨rfl, rfl⟩ := he
      split at h
      · rename_i zs' h'
        cases h
        obtain ⟨h1, h2⟩ := rowInts_get h'
        exact ⟨by simp [h1], by rw [List.map_cons, ← h2]⟩
      · cases h
    · cases h
theorem below_fr {w w' : World} {S : Nat → Prop} {m : List Loc} {h : List Blk} (hh : HRel w S m h) (hb : Below w.heap.size w w') : HRel w' S m h ∧ Fr w S m w' S m := by
  have hsame : ∀ b, b < w.heap.size → w'.heap[b]? = w.heap[b]? := hb.block
  have hmv : Move w S m w' S m := ⟨hb.size, hb.os, hb.tape, hb.output, fun b hb _ => hsame b hb, fun b _ hb => hsame b hb, fun b hb => SameShape.of_eq (hsame b hb), fun _ h => h, fun _ h => .inl h, fun i b o h => .inl ⟨i, o, h⟩, fun _ _ => rfl⟩
  refine ⟨⟨hh.len, fun i l x hl hx => ?_, hh.inj, hh.out, fun b hb' => Nat.lt_of_lt_of_le (hh.low b hb') hb.size, fun i b o h => Nat.lt_of_lt_of_le (hh.lowm i b o h) hb.size⟩, ?_⟩
  · exact (hh.blk i l x hl hx).move hmv hh.lowm (fun b o e => by subst e; exact hsame b (hh.lowm i b o hl))
  · exact ⟨hb.size, hb.os, hb.tape, hb.output, fun b hb _ => hsame b hb, fun b _ hb => hsame b hb, fun b hb => SameShape.of_eq (hsame b hb), fun _ h => h, fun b h => .inl h, fun i b o h => .inl ⟨i, o, h⟩, fun _ _ => rfl⟩
def low9 : List Int → Bool
  | [] => true
  | n :: l => decide (0 ≤ n) && decide (n < 10) && low9 l
theorem low9_all : ∀ {l : List Int}, low9 l = true → ∀ n ∈ l, 0 ≤ n ∧ n < 10
  | [], _, n, hn => by simp at hn
  | x :: l, h, n, hn => by
    simp only [low9, Bool.and_eq_true, decide_eq_true_eq] at h
    rcases List.mem_cons.1 hn with rfl | hn
    · exact h.1
    · exact low9_all h.2 n hn
def hkKey : Hook := fun args h => match args, h with
  | [.ref 0 1 off len], [.plain 1 rows] => match Nat.ble (off + len) rows.length, Nat.ble len 100000, rowInts ((rows.drop off).take len) with
    | true, true, some zs => if low9 zs then some (.ret (.fv (.str (keyT zs))), [.plain 1 rows]) else none
    | _, _, _ => none
  | [.fv (.lst 1 rows)], [] => match Nat.ble rows.length 100000, rowInts rows with
    | true, some zs => if low9 zs then some (.ret (.fv (.str (keyT zs))), []) else none
    | _, _ => none
  | _, _ => none
theorem keyName : (Tryz.f58.name == "runtime.NumGoroutine") = false := by decide +kernel
theorem hkKey_ok (args : List AV) (h : List Blk) (o : AOut) (h' : List Blk) (e : hkKey args h = some (o, h')) : Ok Tryz.prog 58 args h o h' := by
  have hent : Enter Tryz.prog 58 := ⟨Tryz.f58, Tryz.func58, keyName, rfl⟩
  unfold hkKey at e
  split at e
  · rename_i off len rows
    split at e
    · rename_i zs h1 h2 h3
      split at e
      · rename_i h9
        cases e
        obtain ⟨e1, e2⟩ := rowInts_get h3
        have h1 := Nat.le_of_ble_eq_true h1
        have h2 := Nat.le_of_ble_eq_true h2
        have h9 := low9_all h9
        have hlen : zs.length = len := by rw [← e1, List.length_take, List.length_drop]; omega
        refine ⟨hent, fun w S m cargs hG hh hl => ?_⟩
        obtain ⟨u, rfl, hu⟩ := lrel1 hl
        have go : ∀ a c, (∀ j, j < zs.length → ∃ b off, a = some ⟨b, off, none⟩ ∧ b < w.heap.size ∧ w.cell? ⟨b, off + j, none⟩ = some (.int .i64 (zs[j]?.getD 0))) → Calls Tryz.prog 58 [Value.slice a len c].toArray w fun e w' => ∃ S' m', HRel w' S' m' [.plain 1 rows] ∧ ORel w' S' m' e (.ret (.fv (.str (keyT zs)))) ∧ Fr w S m w' S' m' := by
          intro a c hI
          have hk := key_at a c zs h9 (by omega) w w.heap.size (Nat.le_refl _) hI
          rw [hlen] at hk
          refine Calls.mono hk fun e w' hq => ?_
          obtain ⟨rfl, hb⟩ := hq
          obtain ⟨g1, g2⟩ := below_fr hh hb
          refine ⟨S, m, g1, .fv _ _ ?_, g2⟩
          exact .str _
        cases hu with
        | ref _ _ _ _ b o c hm hle hc =>
          refine go _ c (fun j hj => ⟨b, o + off * 1, rfl, hh.lowm _ _ _ hm, ?_⟩)
          obtain ⟨hes, arr, T, ha, hcell⟩ := hh.blk 0 _ _ hm rfl
          have hrow : rows[off + j]? = some [.int .i64 zs[j]] := by
            have h4 : ((rows.drop off).take len)[j]? = some [.int .i64 zs[j]] := by rw [e2]; simp [hj]
            rw [List.getElem?_take] at h4
            split at h4
            · rwa [List.getElem?_drop] at h4
            · cases h4
          obtain ⟨u, hu, hf⟩ := hcell (off + j) 0 _ (.int .i64 zs[j]) hrow rfl
          have hu' : u = .int .i64 zs[j] := by cases hf; rfl
          have hix : o + off * 1 + j = o + (off + j) * 1 + 0 := by omega
          simp only [World.cell?, ha, hix, hu, hu', List.getElem?_eq_getElem hj, Option.getD_some]
          rfl
        | refz _ _ _ a =>
          exact go a 0 (fun j hj => by omega)
      · cases e
    · cases e
  · rename_i rows
    split at e
    · rename_i zs h2 h3
      split at e
      · rename_i h9
        cases e
        obtain ⟨e1, e2⟩ := rowInts_get h3
        have h2 := Nat.le_of_ble_eq_true h2
        have h9 := low9_all h9
        refine ⟨hent, fun w S m cargs hG hh hl => ?_⟩
        obtain ⟨u, rfl, hu⟩ := lrel1 hl
        cases hu with
        | fv _ _ hf => cases hf with
          | lst a n c es xs u ad hn hcp hes ha hs hc hr =>
            have hlen : n = zs.length := by omega
            subst hlen
            have hk := key_at a c zs h9 (by omega) w w.heap.size (Nat.le_refl _) (fun j hj => ?_)
            · refine Calls.mono hk fun e w' hq => ?_
              obtain ⟨rfl, hb⟩ := hq
              obtain ⟨g1, g2⟩ := below_fr hh hb
              refine ⟨S, m, g1, .fv _ _ ?_, g2⟩
              exact .str _
            · have h0 : 0 < zs.length := by omega
              obtain rfl := ha h0
              obtain ⟨b, off, spot⟩ := ad
              have hsp : spot = none := by
                have h6 := hc 0 0 h0 (by omega)
                cases spot with
                | none => rfl
                | some t =>
                  simp only [Nat.zero_mul, Nat.add_zero, Addr.add, if_pos, World.cell?] at h6
                  split at h6 <;> simp at h6
              subst hsp
              have hxj : rows[j]? = some [.int .i64 zs[j]] := by rw [e2]; simp [hj]
              have h7 := hc j 0 hj (by omega)
              have h8 := hr j 0 _ (.int .i64 zs[j]) hxj rfl
              have h10 : u j 0 = .int .i64 zs[j] := by
                generalize u j 0 = q at h8
                cases h8
                rfl
              have h12 : b < w.heap.size := World.block_lt_of_cell? _ _ h7 |> fun h => by
                unfold Addr.add at h
                split at h <;> exact h
              refine ⟨b, off, rfl, h12, ?_⟩
              rw [h10] at h7
              rw [List.getElem?_eq_getElem hj, Option.getD_some, ← h7]
              congr 1
              unfold Addr.add
              split
              · simp_all
              · simp
      · cases e
    · cases e
  · cases e
def hooks : List (FuncId × Hook) := [(58, hkKey)]
theorem hooks_ok (f : FuncId) (k : Hook) (h : extTab hooks f = some k) (args : List AV) (hp : List Blk) (o : AOut) (h' : List Blk) (e : k args hp = some (o, h')) : Ok Tryz.prog f args hp o h' := by
  unfold hooks extTab at h
  split at h
  · rename_i hf
    obtain rfl := Nat.eq_of_beq_eq_true hf
    cases h
    exact hkKey_ok args hp o h' e
  · simp [extTab] at h
def exts : List (FuncId × Ext) := [(138, .idxByte)]
theorem exts_ok (f : FuncId) (x : Ext) (h : extTab exts f = some x) : ExtOk Tryz.prog f x := by
  have step : ∀ {g : FuncId} {y : Ext} {l : List (FuncId × Ext)}, extTab ((g, y) :: l) f = some x → (f = g ∧ y = x) ∨ extTab l f = some x := by
    intro g y l h
    unfold extTab at h
    split at h
    · rename_i hf
      exact .inl ⟨Nat.eq_of_beq_eq_true hf, by cases h; rfl⟩
    · exact .inr h
  rcases step h with ⟨rfl, rfl⟩ | h
  · exact ⟨_, _, Tryz.func138, by decide +kernel, rfl, rfl, rfl, rfl⟩
  · simp [extTab] at h
/-- What a run comes to is a contract of this program's. -/
theorem reckoned {n lf : Nat} {f : FuncId} {args : List AV} {h : List Blk} {o : AOut} {h' : List Blk} (e : goFn Tryz.prog exts hooks lf n f args h = some (o, h')) : Ok Tryz.prog f args h o h' :=
  goFn_ok mix names_ok exts_ok hooks_ok n f args h o h' e
end Go.Abs
