/- From what a row hands and what its listed variable holds to the machine's arguments. -/
import Derived.Test.YtablmjophjjabaaDoorBytesF
import Derived.Test.YtablmjophjjabaaDoorTie
import Derived.WalkKit
import Derived.ProofKit
import Derived.OpenShut
import Derived.Below
import Derived.LaidMore
import Derived.Stop.Joined
namespace Go.Abs
open Go.Proofs Go.RowKit Go.Proofs.YtablmjophjjabaaDoor Go.ChangeShapes Go.WideShapes Go.ChangeAt
set_option maxRecDepth 100000
theorem gn64 : Tryd.prog.globalNamed "math/bits.deBruijn64tab" = some 0 := by kernel_rfl
theorem gt64 : (Tryd.prog.globals[0]?).map (·.type) = some 74 := by kernel_rfl
theorem gonly : ((List.range Tryd.prog.globals.size).all fun g => (gdata Tryd.prog g).isNone || g == 0) = true := by kernel_rfl
theorem gbound (g : Nat) (row : List FV) (h : gdata Tryd.prog g = some row) : g = 0 ∧ row = Lib.deBruijn64tab.map fun n : Nat => FV.int .u8 (n : Int) := by
  have hlt : g < Tryd.prog.globals.size := by
    rcases Nat.lt_or_ge g Tryd.prog.globals.size with h1 | h1
    · exact h1
    · unfold gdata at h
      rw [Array.getElem?_eq_none h1] at h
      cases h
  have h2 := List.all_eq_true.1 gonly g (List.mem_range.2 hlt)
  rw [h] at h2
  have h3 : g = 0 := by simpa using h2
  subst h3
  rw [g0] at h
  exact ⟨rfl, (Option.some.inj h).symm⟩
theorem laid64 : (Rows.laid_math_bits_deBruijn64tab : DataW Unit) = .agg (Lib.deBruijn64tab.map fun n : Nat => .lit (.int .u8 (n : Int))) := by kernel_rfl
theorem gok {W : World} (h : laidMetH Tryd.prog [("math/bits.deBruijn64tab", Rows.laid_math_bits_deBruijn64tab)] W) : GOk Tryd.prog W (fun b => b < W.heap.size) := by
  rw [MakeChecks.laidMetH_plain _ _ _ (by kernel_rfl)] at h
  obtain ⟨ps, ⟨g0', t0, cs0, f0, p0, q0, hg0, ht0, hv0, hd0, _, _⟩, _, _⟩ := h
  obtain rfl := Option.some.inj (gn64.symm.trans hg0)
  obtain rfl := Option.some.inj (gt64.symm.trans ht0)
  obtain ⟨xs, m, rfl, hx, hlen, hn, hel⟩ := DataW.trod_array Tryd.underlying74 hd0
  intro g row hg
  obtain ⟨rfl, rfl⟩ := gbound g row hg
  have c5 : Tryd.prog.cellsOf 5 = 1 := by kernel_rfl
  have hx1 : xs.map (·.1) = Lib.deBruijn64tab.map fun n : Nat => DataW.lit (.int .u8 (n : Int)) := by
    have h1 : (Rows.laid_math_bits_deBruijn64tab : DataW Unit) = .agg (xs.map (·.1)) := congrArg Prod.fst hx
    rw [laid64] at h1
    injection h1 with h1
    exact h1.symm
  have hcell : ∀ j, j < 64 → W.cell? ⟨0, j, none⟩ = some (.int .u8 ((Lib.deBruijn64tab.getD j 0 : Nat) : Int)) := fun j hj => by
    have h1 := hel j hj
    rw [c5, Nat.mul_one] at h1
    have hjx : j < xs.length := by omega
    rw [List.getElem?_eq_getElem hjx] at h1
    obtain ⟨k, e1, e2, _⟩ := DataW.trod_int Tryd.underlying5 h1
    have h2 := congrArg (fun l => l[j]?) hx1
    simp only [List.getElem?_map, List.getElem?_eq_getElem hjx, e2, Option.map_some] at h2
    have htl : j < Lib.deBruijn64tab.length := hj
    rw [List.getElem?_eq_getElem htl] at h2
    simp only [Option.map_some, Option.some.injEq, DataW.lit.injEq, Lit.int.injEq, true_and] at h2
    have h3 := World.var?_cell hg0 hv0 j
    rw [h3]
    have h4 : (cs0.toList.drop j)[0]? = some (.int .u8 k) := by
      have h5 := congrArg (fun l => l[0]?) e1
      simpa [List.getElem?_take] using h5
    rw [List.getElem?_drop, Nat.add_zero] at h4
    rw [← Array.getElem?_toList, h4, h2, List.getD_eq_getElem?_getD, List.getElem?_eq_getElem htl]
    rfl
  refine .fptr _ _ (fun j => .int .u8 ((Lib.deBruijn64tab.getD j 0 : Nat) : Int)) ?_ (fun j hj => ?_) (fun j x hx => ?_)
  · have := block_of_cell? (hcell 0 (by omega))
    exact this
  · have hj' : j < 64 := by rw [List.length_map] at hj; exact hj
    rw [add_at]
    have := hcell j hj'
    rwa [Nat.zero_add]
  · simp only [List.getElem?_map, Option.map_eq_some_iff] at hx
    obtain ⟨n, hn, rfl⟩ := hx
    rw [List.getD_eq_getElem?_getD, hn]
    exact .int _ _
/-- The door's own heap meets the condition: three closed facts. -/
theorem door_met (os : Os) (args : Array Value) : laidMetH Tryd.prog [("math/bits.deBruijn64tab", Rows.laid_math_bits_deBruijn64tab)] ((World.doorLaid Tryd.prog 400 os).forCall (fun _ _ => 0) ⟨#[], args, []⟩).memory :=
  laidMetH_of_parts3 (fuel := 8) (laidMet_of_run' 8 (by kernel_rfl) (by kernel_rfl)) (by kernel_rfl) (by kernel_rfl)
theorem args_rel {w : World} {S : Nat → Prop} {m : List Loc} {vs : List Value} {xs : List AV} (hn : vs.length = xs.length) (h : ∀ (i : Nat) (v : Value) (x : AV), vs[i]? = some v → xs[i]? = some x → VRel w S m v x) : LRel w S m vs xs := ⟨hn, h⟩
theorem lrel_nil {w : World} {S : Nat → Prop} {m : List Loc} : LRel w S m [] [] := ⟨rfl, fun i v x hv => by simp at hv⟩
theorem lrel_cons {w : World} {S : Nat → Prop} {m : List Loc} {v : Value} {x : AV} {vs : List Value} {xs : List AV} (h : VRel w S m v x) (hl : LRel w S m vs xs) : LRel w S m (v :: vs) (x :: xs) :=
  ⟨by simp [hl.1], fun i u y hu hy => by
    cases i with
    | zero => simp at hu hy; subst hu; subst hy; exact h
    | succ i => exact hl.2 i u y (by simpa using hu) (by simpa using hy)⟩
theorem hrel_empty (w : World) : HRel w (fun b => b < w.heap.size) [] [] :=
  ⟨rfl, fun i l b hi => by simp at hi, fun i j bi bj b o o' _ hi => by simp at hi, fun i bi b o hi => by simp at hi, fun b h => h, fun i b o hi => by simp at hi⟩
theorem walk_of_ok {P : Program} {f : FuncId} {args : List AV} {b : Bool} {W : World} {vs : List Value} (hG : GOk P W (fun b => b < W.heap.size)) (hok : Ok P f args [] (.ret (.fv (.bool b))) []) (hl : LRel W (fun b => b < W.heap.size) [] vs args) :
    Calls P f vs.toArray W fun e W' => e = .returned (.bool b) ∧ Below W.heap.size W W' :=
  Calls.mono (hok.2 W _ [] vs hG (hrel_empty W) hl) fun e W' hq => by
    obtain ⟨S', m', _, ho, hf⟩ := hq
    cases e <;> simp only [ORel] at ho
    rename_i v
    obtain rfl := ho.bool_inv
    exact ⟨rfl, hf.os, hf.tape, hf.output, hf.size, fun k hk => hf.same k hk (fun ⟨i, o, hi⟩ => by simp at hi)⟩
/-- A byte that is handed. -/
theorem byte_of {a : Int} (h : (Lit.int .u8 a).wf = true) : ∃ n : Nat, n < 256 ∧ a = n := by
  have h1 : 0 ≤ a ∧ a ≤ 255 := by
    simpa [Lit.wf, IntKind.min, IntKind.max, IntKind.bits, IntKind.signed] using h
  exact ⟨a.toNat, by omega, by omega⟩
/-- Four words that are handed. -/
def IsSet (a b c d : Int) : Prop := (Lit.int .u64 a).wf = true ∧ (Lit.int .u64 b).wf = true ∧ (Lit.int .u64 c).wf = true ∧ (Lit.int .u64 d).wf = true
theorem cells25 : Tryd.prog.cellsOf 25 = 4 := by kernel_rfl
theorem cells23 : Tryd.prog.cellsOf 23 = 1 := by kernel_rfl
theorem open_set {H : Type} {enc : TypeId × Value → H} {W : World} {base b0 : Nat} {sp : Nat → Bool} {held : Bool} {v : Value} {d : DataW H} {ps : List MemPlace} (hval : Value.okWide Tryd.prog W .any b0 25 v) (hd : DataW.Trod enc Tryd.prog W base sp held 25 v d ps) :
    ∃ a b c e : Int, v = .agg #[.int .u64 a, .int .u64 b, .int .u64 c, .int .u64 e] ∧ IsSet a b c e := by
  simp only [Value.okWide, Tryd.underlying25] at hval
  obtain ⟨cs, rfl, hsz, _⟩ := hval
  rw [cells25] at hsz
  obtain ⟨fuel, hf⟩ := hd
  obtain ⟨xs, m, rfl, _, _, hn, hel⟩ := DataW.trod_array Tryd.underlying25 hf
  obtain ⟨l⟩ := cs
  match l, hsz with
  | [c0, c1, c2, c3], _ =>
    simp only [Value.cells] at hel
    have get : ∀ i, i < 4 → ∀ c, (([c0, c1, c2, c3].drop i).take 1) = [c] → ∃ n : Int, c = .int .u64 n ∧ (Lit.int .u64 n).wf = true := fun i hi c hc => by
      have h1 := hel i hi
      rw [cells23, Nat.mul_one, hc, List.getElem?_eq_getElem (by omega)] at h1
      obtain ⟨n, e1, _, e3⟩ := DataW.trod_int Tryd.underlying23 h1
      exact ⟨n, by simpa using e1, e3⟩
    obtain ⟨a, rfl, wa⟩ := get 0 (by omega) c0 rfl
    obtain ⟨b, rfl, wb⟩ := get 1 (by omega) c1 rfl
    obtain ⟨c, rfl, wc⟩ := get 2 (by omega) c2 rfl
    obtain ⟨e, rfl, we⟩ := get 3 (by omega) c3 rfl
    exact ⟨a, b, c, e, rfl, wa, wb, wc, we⟩
theorem word_of {a : Int} (h : (Lit.int .u64 a).wf = true) : ∃ n : Nat, n < 18446744073709551616 ∧ a = n := by
  have h1 : 0 ≤ a ∧ a ≤ 18446744073709551615 := by
    simpa [Lit.wf, IntKind.min, IntKind.max, IntKind.bits, IntKind.signed] using h
  exact ⟨a.toNat, by omega, by omega⟩
theorem set_of {W : World} {S : Nat → Prop} {m : List Loc} {a b c d : Int} (h : IsSet a b c d) : ∃ p, VRel W S m (.agg #[.int .u64 a, .int .u64 b, .int .u64 c, .int .u64 d]) (.agg (sc p)) := by
  obtain ⟨ha, hb, hc, hd⟩ := h
  obtain ⟨a, la, rfl⟩ := word_of ha
  obtain ⟨b, lb, rfl⟩ := word_of hb
  obtain ⟨c, lc, rfl⟩ := word_of hc
  obtain ⟨d, ld, rfl⟩ := word_of hd
  have hw := ws_pOf la lb lc ld
  simp only [ws, List.cons.injEq, and_true] at hw
  obtain ⟨h0, h1, h2, h3⟩ := hw
  refine ⟨pOf a b c d, .agg _ _ rfl (fun i v x hv hx => ?_)⟩
  match i with
  | 0 => simp at hv; simp [sc] at hx; subst hv; subst hx; rw [h0]; exact .fv _ _ (.int _ _)
  | 1 => simp at hv; simp [sc] at hx; subst hv; subst hx; rw [h1]; exact .fv _ _ (.int _ _)
  | 2 => simp at hv; simp [sc] at hx; subst hv; subst hx; rw [h2]; exact .fv _ _ (.int _ _)
  | 3 => simp at hv; simp [sc] at hx; subst hv; subst hx; rw [h3]; exact .fv _ _ (.int _ _)
  | i + 4 => simp [sc] at hx
/-- A slice of sets that is handed. -/
def IsSets (W : World) (a : Option Addr) (len cap : Nat) (z : List (Nat → Bool)) : Prop := VRel W (fun b => b < W.heap.size) [] (.slice a len cap) (.fv (.lst 4 (srows z)))
theorem isSets_rel {W : World} {a : Option Addr} {len cap : Nat} {z : List (Nat → Bool)} (h : IsSets W a len cap z) : VRel W (fun b => b < W.heap.size) [] (.slice a len cap) (.fv (.lst 4 (srows z))) := h
theorem exists_list {α : Type} {Q : Nat → α → Prop} : ∀ n, (∀ i, i < n → ∃ x, Q i x) → ∃ z : List α, z.length = n ∧ ∀ i x, z[i]? = some x → Q i x
  | 0, _ => ⟨[], rfl, fun i x h => by simp at h⟩
  | n + 1, h => by
    obtain ⟨z, hz, hq⟩ := exists_list n fun i hi => h i (by omega)
    obtain ⟨x, hx⟩ := h n (by omega)
    refine ⟨z ++ [x], by simp [hz], fun i y hy => ?_⟩
    rw [List.getElem?_append] at hy
    split at hy
    · exact hq i y hy
    · rename_i hn
      have hi : i = n := by
        have := (List.getElem?_eq_some_iff.1 hy).1
        simp at this
        omega
      subst hi
      simp [hz] at hy
      subst hy
      exact hx
theorem set_cells {a b c d : Int} (h : IsSet a b c d) : ∃ p, a = wd p 0 ∧ b = wd p 1 ∧ c = wd p 2 ∧ d = wd p 3 := by
  obtain ⟨ha, hb, hc, hd⟩ := h
  obtain ⟨a, la, rfl⟩ := word_of ha
  obtain ⟨b, lb, rfl⟩ := word_of hb
  obtain ⟨c, lc, rfl⟩ := word_of hc
  obtain ⟨d, ld, rfl⟩ := word_of hd
  have hw := ws_pOf la lb lc ld
  simp only [ws, List.cons.injEq, and_true] at hw
  exact ⟨pOf a b c d, hw.1.symm, hw.2.1.symm, hw.2.2.1.symm, hw.2.2.2.symm⟩
theorem open_sets {H : Type} {enc : TypeId × Value → H} {W : World} {base b0 : Nat} {sp : Nat → Bool} {held : Bool} {v : Value} {d : DataW H} {ps : List MemPlace} (hval : Value.okWide Tryd.prog W .any b0 33 v) (hd : DataW.Trod enc Tryd.prog W base sp held 33 v d ps) :
    ∃ a len cap z, v = .slice a len cap ∧ IsSets W a len cap z := by
  obtain ⟨a0, len0, cap0, rfl⟩ := okWide_slice Tryd.underlying33 hval
  obtain ⟨fuel, hf⟩ := hd
  rcases DataW.trod_slice Tryd.underlying33 hf with ⟨hcs, _⟩ | ⟨a, len, cap, elems, rest, n, _, hcs, _, hb, hl, hm, hlen, hel, _⟩
  · simp [Value.cells] at hcs
    obtain ⟨rfl, rfl, rfl⟩ := hcs
    exact ⟨none, 0, 0, [], rfl, nils_lst 4 (.fv _ _ .nils)⟩
  · simp [Value.cells] at hcs
    obtain ⟨rfl, rfl, rfl⟩ := hcs
    refine ⟨some a, len0, cap0, ?_⟩
    have each : ∀ i, i < len0 → ∃ p : Nat → Bool, ∀ j, j < 4 → W.cell? (a.add (i * 4 + j)) = some (.int .u64 (wd p j)) := fun i hi => by
      have h1 := hel i hi
      rw [List.getElem?_eq_getElem (by omega), cells25, Option.bind_eq_some_iff] at h1
      obtain ⟨cs, hcs, hy⟩ := h1
      obtain ⟨h2, h3, h4⟩ := World.cells?_some hcs
      obtain ⟨xs, m, rfl, _, hlen4, hn, hel4⟩ := DataW.trod_array Tryd.underlying25 hy
      rw [cells25] at hlen4
      match cs, hlen4 with
      | [c0, c1, c2, c3], _ =>
        have get : ∀ i, i < 4 → ∀ c, (([c0, c1, c2, c3].drop i).take 1) = [c] → ∃ n : Int, c = .int .u64 n ∧ (Lit.int .u64 n).wf = true := fun i hi c hc => by
          have h1 := hel4 i hi
          rw [cells23, Nat.mul_one, hc, List.getElem?_eq_getElem (by omega)] at h1
          obtain ⟨n, e1, _, e3⟩ := DataW.trod_int Tryd.underlying23 h1
          exact ⟨n, by simpa using e1, e3⟩
        obtain ⟨x0, rfl, w0⟩ := get 0 (by omega) c0 rfl
        obtain ⟨x1, rfl, w1⟩ := get 1 (by omega) c1 rfl
        obtain ⟨x2, rfl, w2⟩ := get 2 (by omega) c2 rfl
        obtain ⟨x3, rfl, w3⟩ := get 3 (by omega) c3 rfl
        obtain ⟨p, rfl, rfl, rfl, rfl⟩ := set_cells ⟨w0, w1, w2, w3⟩
        refine ⟨p, fun j hj => ?_⟩
        have h5 := h4 j hj
        rw [add_add] at h5
        rw [h5]
        match j, hj with
        | 0, _ => rfl
        | 1, _ => rfl
        | 2, _ => rfl
        | 3, _ => rfl
    obtain ⟨z, hz, hq⟩ := exists_list len0 each
    refine ⟨z, rfl, .fv _ _ (.lst _ _ _ _ _ (fun i j => match z[i]? with
      | some p => .int .u64 (wd p j)
      | none => Go.undef) a (by rw [srows_len, hz]) hl (fun i row hrow => ?_) (fun _ => rfl) (fun hpos => ?_) (fun i j hi hj => ?_) (fun i j row x hrow hx => ?_))⟩
    · simp only [srows, List.getElem?_map, Option.map_eq_some_iff] at hrow
      obtain ⟨p, _, rfl⟩ := hrow
      exact srow_len p
    · have h0 : z[0]? = some (z[0]'(by omega)) := List.getElem?_eq_getElem (by omega)
      have := block_of_cell? (hq 0 _ h0 0 (by omega))
      rwa [add_block] at this
    · have h0 : z[i]? = some (z[i]'(by omega)) := List.getElem?_eq_getElem (by omega)
      have := hq i _ h0 j hj
      rw [this, h0]
    · simp only [srows, List.getElem?_map, Option.map_eq_some_iff] at hrow
      obtain ⟨p, hp, rfl⟩ := hrow
      simp only [hp]
      match j with
      | 0 => simp [srow] at hx; subst hx; exact .int _ _
      | 1 => simp [srow] at hx; subst hx; exact .int _ _
      | 2 => simp [srow] at hx; subst hx; exact .int _ _
      | 3 => simp [srow] at hx; subst hx; exact .int _ _
      | j + 4 => simp [srow] at hx
end Go.Abs
