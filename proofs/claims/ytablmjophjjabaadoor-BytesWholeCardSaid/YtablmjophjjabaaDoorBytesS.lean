/- Sets of bytes: the library's sort. -/
import Derived.Test.YtablmjophjjabaaDoorBytesD
import Derived.Test.YtablmjophjjabaaDoorAbsV
import Derived.Test.YtablmjophjjabaaDoorBytesLay
namespace Go.Abs
open Go.Proofs
set_option linter.unusedVariables false
set_option linter.unusedSimpArgs false
set_option maxRecDepth 100000
set_option maxHeartbeats 1000000
/-- A world that a call without blocks leaves: draws, and new blocks. -/
theorem world_of_fr {w w' : World} {S S' : Nat → Prop} {m' : List Loc} (h : Fr w S [] w' S' m') : ∃ q os, w' = Sort.grow (w.drewN q) os := by
  refine ⟨w'.drawn - w.drawn, w'.heap.extract w.heap.size w'.heap.size, ?_⟩
  have hs := h.size
  have hd := h.drawn
  have ho := h.os
  have ht := h.tape
  have hu := h.output
  have hsame : ∀ b, b < w.heap.size → w'.heap[b]? = w.heap[b]? := fun b hb => h.same b hb (fun ⟨i, o, hi⟩ => by simp at hi)
  have hh : w'.heap = w.heap ++ w'.heap.extract w.heap.size w'.heap.size := by
    apply Array.ext_getElem?
    intro i
    rcases Nat.lt_or_ge i w.heap.size with h1 | h1
    · rw [Array.getElem?_append_left h1, hsame i h1]
    · rw [Array.getElem?_append_right h1, Array.getElem?_extract]
      rcases Nat.lt_or_ge i w'.heap.size with h2 | h2
      · rw [if_pos (by omega), show w.heap.size + (i - w.heap.size) = i from by omega]
      · rw [if_neg (by omega), Array.getElem?_eq_none h2]
  obtain ⟨heap', tape', drawn', os', output'⟩ := w'
  obtain ⟨heap, tape, drawn, os, output⟩ := w
  simp only at ho ht hu hd hh
  subst ho; subst ht; subst hu
  have e : drawn + (drawn' - drawn) = drawn' := by omega
  simp only [Sort.grow, World.drewN, e]
  rw [← hh]
def cfB (p q : Nat → Bool) : Int := cmpI (leastP p) (leastP q)
theorem ltB (p q : Nat → Bool) : Go.Proofs.ltOf cfB p q = decide (leastP p < leastP q) := by
  simp only [Go.Proofs.ltOf, cfB, cmpI, decide_eq_decide]
  split
  · simp; omega
  · split <;> simp <;> omega
theorem swoB : Sort.SWO (Go.Proofs.ltOf cfB) where
  irrefl x := by simp [ltB]
  trans x y z := by simp only [ltB, decide_eq_true_eq]; omega
  ntrans x y z := by simp only [ltB, decide_eq_false_iff_not]; omega
/-- The parts, sorted. -/
def sortB (ps : List (Nat → Bool)) : List (Nat → Bool) := (Sort.pdq (Go.Proofs.ltOf cfB) ps.toArray 0 ps.toArray.size (Lib.bitLen ps.toArray.size) true true).toList
theorem sortB_facts (ps : List (Nat → Bool)) : (sortB ps).length = ps.length ∧ (sortB ps).Perm ps ∧ (sortB ps).Pairwise (fun p q => leastP p ≤ leastP q) := by
  obtain ⟨⟨h1, _, h2⟩, h3⟩ := Sort.pdq_sorts (Go.Proofs.ltOf cfB) swoB ps.toArray 0 ps.toArray.size (Lib.bitLen ps.toArray.size) true true (Nat.zero_le _) (Nat.le_refl _) (Or.inl rfl)
  unfold sortB
  generalize Sort.pdq (Go.Proofs.ltOf cfB) ps.toArray 0 ps.toArray.size (Lib.bitLen ps.toArray.size) true true = d at *
  have hsz : d.size = ps.length := by simpa using h1
  refine ⟨by simpa using hsz, ?_, ?_⟩
  · have e1 : d.extract 0 ps.toArray.size = d := by rw [← h1]; exact Array.extract_size
    rw [e1, Array.extract_size] at h2
    simpa using h2
  · rw [List.pairwise_iff_getElem]
    intro i j hi hj hij
    have hj' : j < d.size := by simpa using hj
    have hi' : i < d.size := by simpa using hi
    have h := h3 i j (Nat.zero_le _) hij (by simpa [hsz] using hj')
    rw [ltB, decide_eq_false_iff_not, getElem!_pos d j hj', getElem!_pos d i hi'] at h
    simp only [Array.getElem_toList]
    omega
theorem srow_scal (p : Nat → Bool) : ∀ y ∈ srow p, scal y = true := by
  intro y hy
  simp [srow] at hy
  rcases hy with rfl | rfl | rfl | rfl <;> rfl
theorem fnoname : (Tryd.f32.name == "runtime.NumGoroutine") = false := by decide +kernel
theorem ok32 (ps : List (Nat → Bool)) (hne : ps ≠ []) (hlen : ps.length < 1048576) : Ok Tryd.prog 32 [.ref 0 4 0 ps.length, .func 33 []] [.plain 4 (srows ps)] (.ret (.tuple [])) [.plain 4 (srows (sortB ps))] := by
  have hsz : (Sort.pdq (Go.Proofs.ltOf cfB) ps.toArray 0 ps.toArray.size (Lib.bitLen ps.toArray.size) true true).size = ps.toArray.size :=
    (Sort.pdq_sorts (Go.Proofs.ltOf cfB) swoB ps.toArray 0 ps.toArray.size (Lib.bitLen ps.toArray.size) true true (Nat.zero_le _) (Nat.le_refl _) (Or.inl rfl)).1.1
  have h := lift_rowK (P := Tryd.prog) (f := 32) (g := 33) srow 4 Tryd.func32 rfl rfl (by omega) srow_len srow_scal ps.toArray _ hsz (by simpa using List.length_pos_iff.2 hne) ?_
  · simpa [srows, sortB] using h
  · intro S b off cap w hG hbS hlow hH hb hc
    refine (AnyQ.slices_SortFunc_eq Tryd.laysF6 4 Tryd.isAgg25 Tryd.sizeOf25 (encS srow) (fun x => by simp [encS, srow_len]) (fun x v hv => ?_) cfB swoB 33 #[] b off cap ps.toArray w ?_ ?_ hH hb (by simp; omega)).mono ?_
    · simp [encS, srow, valS] at hv
      rcases hv with rfl | rfl | rfl | rfl <;> rfl
    · exact Tryd.call33
    · intro m os dk hdk x y
      generalize hW : Go.Proofs.sortWorldK (encS srow) 4 w b off m dk os = W
      have hfar : ∀ k, S k → k < w.heap.size → W.heap[k]? = w.heap[k]? := fun k hk hl => by
        have hkb : k ≠ b := fun e => hbS (e ▸ hk)
        rw [← hW]
        show ((w.heap.modify b _) ++ os)[k]? = _
        rw [Array.getElem?_append_left (by simpa using hl), Array.getElem?_modify, if_neg (fun e => hkb e.symm)]
      have hszW : w.heap.size ≤ W.heap.size := by
        rw [← hW]
        show w.heap.size ≤ ((w.heap.modify b _) ++ os).size
        simp
      have hGW : GOk Tryd.prog W S := fun g row hg => (hG g row hg).stab (fun _ h => h) hfar (fun i b o hi => by simp at hi) (fun i b o hi => by simp at hi)
      have hHW : HRel W S [] [] := ⟨rfl, fun i l b hi => by simp at hi, fun i j bi bj b o o' _ hi => by simp at hi, fun i bi b o hi => by simp at hi, fun k hk => Nat.lt_of_lt_of_le (hlow k hk) hszW, fun i b o hi => by simp at hi⟩
      have hrel : ∀ p : Nat → Bool, VRel W S [] (.agg (encS srow p).toArray) (.agg (sc p)) := fun p => by
        refine .agg _ _ (by simp [encS, srow, sc]) (fun i v z hv hz => ?_)
        match i with
        | 0 => simp [encS, srow, valS] at hv; simp [sc] at hz; subst hv; subst hz; exact .fv _ _ (.int _ _)
        | 1 => simp [encS, srow, valS] at hv; simp [sc] at hz; subst hv; subst hz; exact .fv _ _ (.int _ _)
        | 2 => simp [encS, srow, valS] at hv; simp [sc] at hz; subst hv; subst hz; exact .fv _ _ (.int _ _)
        | 3 => simp [encS, srow, valS] at hv; simp [sc] at hz; subst hv; subst hz; exact .fv _ _ (.int _ _)
        | i + 4 => simp [sc] at hz
      refine ((ok33 x y).2 W S [] [.agg (encS srow x).toArray, .agg (encS srow y).toArray] hGW hHW ⟨rfl, fun i v z hv hz => ?_⟩).mono fun e w' hq => ?_
      · match i with
        | 0 => simp at hv hz; subst hv; subst hz; exact hrel x
        | 1 => simp at hv hz; subst hv; subst hz; exact hrel y
        | i + 2 => simp at hv
      · obtain ⟨S', m', _, ho, hf⟩ := hq
        refine ⟨?_, world_of_fr hf⟩
        cases e <;> simp only [ORel] at ho
        cases ho with
        | fv _ _ hx => cases hx; rfl
    · rintro e w' ⟨he, n, os, hw⟩
      exact ⟨he, n, os, hw⟩
end Go.Abs
