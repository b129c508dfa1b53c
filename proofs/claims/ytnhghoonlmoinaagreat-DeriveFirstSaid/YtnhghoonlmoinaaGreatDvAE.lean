/- What is derived, and what productions make; what it begins with. -/
import Derived.Test.YtnhghoonlmoinaaGreatFiA
import Derived.Test.YtnhghoonlmoinaaGreatDvAB
import Derived.Test.YtnhghoonlmoinaaGreatAbsNil
namespace Go.Abs
set_option linter.unusedSectionVars false
variable [Kn]
set_option linter.unusedVariables false
variable {g : Gra}
theorem Der.terms {w : List Int} : ∀ (ts : List Int) (i : Nat),w.drop i = ts → i ≤ w.length → (∀ n ∈ ts,n ≤ (g.terms : Int)) → Der g w ts i w.length
 | [],i,h,hi,_ => by
  have h2 := congrArg List.length h
  rw [List.length_drop,List.length_nil] at h2
  have e : w.length = i := by omega
  rw [e]
  exact .nil i hi
 | n :: ts,i,h,hi,hn => by
  have h0 : w[i]? = some n := by
   have := congrArg (fun l => l[0]?) h
   simpa using this
  have h1 : w.drop (i + 1) = ts := by
   have := congrArg (List.drop 1) h
   simpa [List.drop_drop] using this
  exact .term n ts i _ (hn n (by simp)) h0 (Der.terms ts (i + 1) h1 (List.getElem?_eq_some_iff.1 h0).1 fun k hk => hn k (List.mem_cons_of_mem _ hk))
theorem lastNt_gt {T : Nat} {t : List Int} : ∀ {k a : Nat},lastNt T t k = some a → (T : Int) < t.getD a 0
 | 0,a,h => by simp [lastNt] at h
 | k + 1,a,h => by
  unfold lastNt at h
  split at h
  ·rename_i c
   injection h with h
   subst h
   exact c
  ·exact lastNt_gt h
theorem repl_der {u : List Int} (hu : ∀ n ∈ u,n ≤ (g.terms : Int)) : ∀ (l t : List Int),(∀ p ∈ l,0 ≤ p ∧ p < (g.prods.length : Int)) → replG g l t = (u,0) → Der g u t 0 u.length
 | [],t,_,h => by
  rw [replG] at h
  have e : t = u := congrArg Prod.fst h
  subst e
  exact Der.terms t 0 rfl (Nat.zero_le _) hu
 | p :: l,t,hl,h => by
  cases hn : lastNt g.terms t t.length with
  | none => rw [replG_none hn] at h; have := congrArg Prod.snd h; simp at this
  | some a =>
   by_cases h2 : t.getD a 0 = (g.pr p).left
   ·by_cases h3 : 400 < (madeT t (g.pr p).right a).length
    ·rw [replG_full hn h2 h3] at h; have := congrArg Prod.snd h; simp at this
    ·rw [replG_go hn h2 h3] at h
     have ih := repl_der hu l _ (fun q hq => hl q (List.mem_cons_of_mem _ hq)) h
     have hlt := lastNt_lt hn
     have hgt := lastNt_gt hn
     obtain ⟨hp0,hp1⟩ := hl p (by simp)
     have hmem := (pr_at (g := g) hp0 hp1).2
     unfold madeT at ih
     obtain ⟨j,h4,h5⟩ := Der.append.1 ih
     obtain ⟨i,h6,h7⟩ := Der.append.1 h4
     rw [h2] at hgt
     have h8 : Der g u [(g.pr p).left] i j := .nont_one hgt hmem h7
     have h9 := Der.append.2 ⟨j,Der.append.2 ⟨i,h6,h8⟩,h5⟩
     have e : t = t.take a ++ [(g.pr p).left] ++ t.drop (a + 1) := by
      rw [← h2,List.getD_eq_getElem?_getD,List.getElem?_eq_getElem hlt,Option.getD_some,← List.take_succ_eq_append_getElem hlt,List.take_append_drop]
     rw [e]
     exact h9
   ·rw [replG_bad hn h2] at h; have := congrArg Prod.snd h; simp at this
theorem Der.nul {w : List Int} {ts : List Int} {i k : Nat} (h : Der g w ts i k) : i = k → ∀ n ∈ ts,Nul g n := by
 induction h with
 | nil i h => intro _ n hn; cases hn
 | term n ts i k hn hw h ih => intro e; have := h.le; omega
 | nont n p ts i j k hn hp hl h1 h2 ih1 ih2 =>
  intro e
  have := h1.le; have := h2.le
  have e1 : i = j := by omega
  have e2 : j = k := by omega
  intro m hm
  rcases List.mem_cons.1 hm with rfl | hm
  ·rw [← hl]; exact .mk p hp (ih1 e1)
  ·exact ih2 e2 m hm
theorem Nul.der (hl : ∀ p ∈ g.prods,(g.terms : Int) < p.left) {w : List Int} {i : Nat} (hi : i ≤ w.length) {n : Int} (h : Nul g n) : Der g w [n] i i := by
 have hall : ∀ ts : List Int,(∀ n ∈ ts,Der g w [n] i i) → Der g w ts i i := by
  intro ts
  induction ts with
  | nil => intro _; exact .nil i hi
  | cons n ts ih => intro h; exact (Der.append (a := [n])).2 ⟨i,h n (by simp),ih fun k hk => h k (List.mem_cons_of_mem _ hk)⟩
 induction h with
 | mk p hp _ ih => exact .nont_one (hl p hp) hp (hall _ ih)
theorem Der.null_iff (hl : ∀ p ∈ g.prods,(g.terms : Int) < p.left) {n : Int} : Der g [] [n] 0 0 ↔ ∀ k ∈ [n],Nul g k := by
 constructor
 ·intro h; exact h.nul rfl
 ·intro h; exact Nul.der hl (Nat.le_refl _) (h n (by simp))
theorem Der.fst {w : List Int} {ts : List Int} {i k : Nat} (h : Der g w ts i k) : i < k → ∃ t,w[i]? = some t ∧ Fst g ts t := by
 induction h with
 | nil i h => intro h; omega
 | term n ts i k hn hw h ih => intro _; exact ⟨n,hw,.here n ts hn⟩
 | nont n p ts i j k hn hp hl h1 h2 ih1 ih2 =>
  intro hik
  have := h1.le
  by_cases e : i < j
  ·obtain ⟨t,h3,h4⟩ := ih1 e
   refine ⟨t,h3,?_⟩
   rw [← hl]
   exact .down p ts t hp h4
  ·obtain rfl : i = j := by omega
   obtain ⟨t,h3,h4⟩ := ih2 hik
   refine ⟨t,h3,.skip n ts t ?_ h4⟩
   rw [← hl]
   exact .mk p hp (h1.nul rfl)
end Go.Abs
