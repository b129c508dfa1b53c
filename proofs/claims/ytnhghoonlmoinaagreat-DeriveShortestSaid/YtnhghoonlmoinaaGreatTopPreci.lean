/- The last number of a list that is not above a bound: a loop over an iterator of the library. -/
import Derived.RangeFuncBox
import Derived.RangeFuncLeaves
import Derived.Shelf.Abstract
import Derived.WalkKit
import Derived.OwnWalkIn
import Derived.TacticsInMore
import Derived.LoopNIn
import Derived.LoopIn
import Derived.Test.YtnhghoonlmoinaaGreatAbsGo
import Derived.Test.YtnhghoonlmoinaaGreatProg
namespace Go.Proofs
instance : Go.Abs.Kn := ⟨false⟩
open Go.RowKit Go.Shelf
set_option linter.unusedVariables false
set_option linter.unusedSimpArgs false
attribute [local go_sem] Oper.semAt_some
def Bkw.upto {α : Type} (f : Nat → α) (k : Nat) : List α := (List.range k).map f
theorem Bkw.upto_succ {α : Type} (f : Nat → α) (k : Nat) : Bkw.upto f (k + 1) = Bkw.upto f k ++ [f k] := by simp [Bkw.upto,List.range_succ]
theorem Bkw.upto_length {α : Type} (f : Nat → α) (k : Nat) : (Bkw.upto f k).length = k := by simp [Bkw.upto]
/-- What comes in round k: the index, the value. -/
def Bkw.at_ (zs : List Int) (len k : Nat) : Int × Int := ((len : Int) - 1 - k,zs[len - 1 - k]?.getD 0)
def Bkw.Ints (n₀ : Nat) (W : World) (sv : Value) (zs : List Int) : Prop :=
 (∃ a c,sv = .slice a 0 c ∧ zs = []) ∨ ∃ b off cap,sv = .slice (some ⟨b,off,none⟩) zs.length cap ∧ b < n₀ ∧ ∀ j,j < zs.length → W.cell? ⟨b,off + j,none⟩ = some (.int .i64 (zs[j]?.getD 0))
theorem Bkw.Ints.below {n₀ : Nat} {A B : World} (h : Below n₀ A B) {sv : Value} {zs : List Int} : Bkw.Ints n₀ A sv zs → Bkw.Ints n₀ B sv zs
 | .inl e => .inl e
 | .inr ⟨b,off,cap,e,hb,hc⟩ => .inr ⟨b,off,cap,e,hb,fun j hj => (h.cell (p := ⟨b,off + j,none⟩) hb).trans (hc j hj)⟩
set_option maxRecDepth 100000 in
set_option maxHeartbeats 2000000 in
theorem Bkw.back1_in (F : Fence) (n : Nat) (h8 : F.fn 152) (hro : F.round = none) (hn : 1 ≤ n) (l Bs n₀ b off len cap : Nat) (zs : List Int) (hreach : len * 8 ≤ 140737488351232) (hb : b < n₀) (J Jx : List (Int × Int) → World → Prop)
  (hY : ∀ pre x W,J pre W → pre.length < len → YieldAt F (n - 1) Tryz.prog l #[.int .i64 x.1,.int .i64 x.2] W fun e W' =>
   (e = .returned (.bool true) ∧ J (pre ++ [x]) W' ∧ Below n₀ W W') ∨ (e = .returned (.bool false) ∧ Jx (pre ++ [x]) W'))
  (W : World) (hBs : W.cell? ⟨Bs,0,none⟩ = some (.slice (some ⟨b,off,none⟩) len cap)) (hBn : Bs < n₀) (hc : ∀ j,j < len → W.cell? ⟨b,off + j,none⟩ = some (.int .i64 (zs[j]?.getD 0))) (h0 : J [] W) :
  CallsIn F n Tryz.prog 152 #[.func (.yield l) #[] #[],.pointer (some ⟨Bs,0,none⟩)] W fun e W' => (∃ v,e = .returned v) ∧
   ((∃ ys,ys = Bkw.upto (Bkw.at_ zs len) len ∧ J ys W') ∨ (∃ pre,(∃ k,k ≤ len ∧ pre = Bkw.upto (Bkw.at_ zs len) k) ∧ Jx pre W')) := by
 refine callsIn_of_wp Tryz.func152 rfl h8 ?_ hro
 simp only [Tryz.ntmps152,List.size_toArray,List.length_cons,List.length_nil,Nat.reduceAdd,Nat.reduceSub,Array.replicate_succ,Array.replicate_zero,List.push_toArray,List.append_toArray,List.nil_append,List.cons_append]
 gi_wp2
 gi_loopw [3] (fun i wr => ∃ k : Nat,k ≤ len ∧ i = .int .i64 ((len : Int) - 1 - k) ∧ J (Bkw.upto (Bkw.at_ zs len) k) wr ∧ Below n₀ W wr)
  (fun i _ => (intOf i + 1).toNat)
 case atStart => exact ⟨0,Nat.zero_le _,by simp,h0,Below.refl _ _⟩
 case round =>
  obtain ⟨k,hk,rfl,hJs,hnx⟩ := hrel
  have hBx : wr.cell? ⟨Bs,0,none⟩ = some (.slice (some ⟨b,off,none⟩) len cap) := (hnx.cell (p := ⟨Bs,0,none⟩) hBn).trans hBs
  by_cases hlt : k < len
  ·obtain ⟨fn,tmps,assign,body,hy,hR⟩ := hY _ (Bkw.at_ zs len k) wr hJs (by rw [Bkw.upto_length]; exact hlt)
   simp only [Bkw.at_] at hy
   obtain ⟨i,hi⟩ : ∃ i : Nat,(len : Int) - 1 - k = i := ⟨len - 1 - k,by omega⟩
   have hin : len - 1 - k = i := by omega
   have hilt : i < len := by omega
   have hcx' : wr.cell? ⟨b,off + i,none⟩ = some (.int .i64 (zs[i]?.getD 0)) := (hnx.cell (p := ⟨b,off + i,none⟩) hb).trans (hc i hilt)
   have hk2 : (k : Int) = len - 1 - i := by omega
   rw [hi,hin] at hy
   rw [hi]
   gi_wp2
   refine hR.mono ?_
   rintro e W3 (⟨rfl,hJ3,hk3⟩ | ⟨rfl,hJx3⟩)
   ·gi_wp2
    go_roundw
    case rel => exact ⟨k + 1,by omega,by congr 1; omega,by rw [Bkw.upto_succ]; exact hJ3,hnx.trans hk3⟩
    case measure => simp [intOf]
   ·gi_wp2
    refine bodyPost_ret (results_none rfl _ _ _) rfl ?_
    exact ⟨⟨_,rfl⟩,.inr ⟨_,⟨k + 1,by omega,(Bkw.upto_succ _ _).symm⟩,hJx3⟩⟩
  ·obtain rfl : k = len := by omega
   have hm : (k : Int) - 1 - k = -1 := by omega
   rw [hm]
   gi_wp2
   go_end0
   exact ⟨⟨_,rfl⟩,.inl ⟨_,rfl,hJs⟩⟩
set_option maxRecDepth 100000 in
set_option maxHeartbeats 1000000 in
theorem Bkw.back1_nil_in (F : Fence) (n : Nat) (h8 : F.fn 152) (hro : F.round = none) (l Bs : Nat) (J : List (Int × Int) → World → Prop) (W : World) (a : Option Addr) (c : Nat) (hBs : W.cell? ⟨Bs,0,none⟩ = some (.slice a 0 c)) (h0 : J [] W) :
  CallsIn F n Tryz.prog 152 #[.func (.yield l) #[] #[],.pointer (some ⟨Bs,0,none⟩)] W fun e W' => (∃ v,e = .returned v) ∧ J [] W' := by
 refine callsIn_of_wp Tryz.func152 rfl h8 ?_ hro
 simp only [Tryz.ntmps152,List.size_toArray,List.length_cons,List.length_nil,Nat.reduceAdd,Nat.reduceSub,Array.replicate_succ,Array.replicate_zero,List.push_toArray,List.append_toArray,List.nil_append,List.cons_append]
 gi_wp2
 gi_loopw [3] (fun i wr => i = .int .i64 (-1) ∧ J [] wr) (fun _ _ => 0)
 case atStart => exact ⟨rfl,h0⟩
 case round =>
  obtain ⟨rfl,hJs⟩ := hrel
  gi_wp2
  go_end0
  exact ⟨⟨_,rfl⟩,hJs⟩
set_option maxHeartbeats 1000000 in
theorem Bkw.back_in (F : Fence) (n : Nat) (h6 : F.fn 120) (hro : F.round = none) (a : Option Addr) (len cap : Nat) (w : World) :
  CallsIn F n Tryz.prog 120 #[.slice a len cap] w fun e w' => e = .returned (.func (.func 152) #[] #[.pointer (some ⟨w.heap.size,0,none⟩)]) ∧ w' = w.alloc (.cells #[.slice a len cap] 28) := by
 refine callsIn_of_wp Tryz.func120 rfl h6 ?_ hro
 simp only [Tryz.ntmps120,List.size_toArray,List.length_cons,List.length_nil,Nat.reduceAdd,Nat.reduceSub,Array.replicate_succ,Array.replicate_zero,List.push_toArray,List.append_toArray,List.nil_append,List.cons_append]
 gi_wp2
 go_ret
 exact ⟨rfl,rfl⟩
theorem Bkw.back_stops (F : Fence) (n : Nat) (h8 : F.fn 152) (hro : F.round = none) (hn : 1 ≤ n) (Bs n₀ : Nat) (sv : Value) (zs : List Int) (hreach : zs.length * 8 ≤ 140737488351232) (w : World) (hBs : Bs < w.heap.size) (hn₀ : n₀ = w.heap.size)
  (hc : w.cell? ⟨Bs,0,none⟩ = some sv) (hI : Bkw.Ints n₀ w sv zs) :
  SeqStopsK F n Tryz.prog 152 #[.pointer (some ⟨Bs,0,none⟩)] (fun x : Int × Int => #[Value.int .i64 x.1,Value.int .i64 x.2]) (Below n₀) (fun ys => ys = Bkw.upto (Bkw.at_ zs zs.length) zs.length)
   (fun pre => ∃ k,k ≤ zs.length ∧ pre = Bkw.upto (Bkw.at_ zs zs.length) k) zs.length w := fun l J Jx W hW _ _ hY h0 => by
 have hc' := (hW.cell (p := ⟨Bs,0,none⟩) hBs).trans hc
 rcases hI.below (hW.mono (by omega)) with ⟨a,c,rfl,rfl⟩ | ⟨b,off,cap,rfl,hb,hcs⟩
 ·exact (Bkw.back1_nil_in F n h8 hro l Bs J W a c hc' h0).mono fun e W' ⟨he,hj⟩ => ⟨he,.inl ⟨_,rfl,hj⟩⟩
 ·exact Bkw.back1_in F n h8 hro hn l Bs n₀ b off zs.length cap zs hreach hb J Jx hY W hc' (by omega) hcs h0
/-- The last number that is not above t; 0: there is none. -/
def lastLE (zs : List Int) (t : Int) : Int := (zs.reverse.find? fun n => decide (n ≤ t)).getD 0
theorem lastLE_none {zs : List Int} {t : Int} (h : ∀ k,k < zs.length → t < (Bkw.at_ zs zs.length k).2) : lastLE zs t = 0 := by
 unfold lastLE
 rw [List.find?_eq_none.2]
 ·rfl
 ·intro x hx
  rw [List.mem_reverse] at hx
  obtain ⟨j,hj,rfl⟩ := List.getElem_of_mem hx
  have := h (zs.length - 1 - j) (by omega)
  simp only [Bkw.at_,show zs.length - 1 - (zs.length - 1 - j) = j from by omega,List.getElem?_eq_getElem hj,Option.getD_some] at this
  simp only [decide_eq_true_eq]
  omega
theorem lastLE_some {zs : List Int} {t : Int} {k : Nat} (hk : k < zs.length) (hle : (Bkw.at_ zs zs.length k).2 ≤ t) (h : ∀ j,j < k → t < (Bkw.at_ zs zs.length j).2) : lastLE zs t = (Bkw.at_ zs zs.length k).2 := by
 have hat : ∀ j (hj : j < zs.length),(Bkw.at_ zs zs.length j).2 = zs.reverse[j]'(by simpa using hj) := fun j hj => by
  simp only [Bkw.at_,List.getElem_reverse]
  rw [List.getElem?_eq_getElem (by omega)]
  rfl
 unfold lastLE
 have : zs.reverse.find? (fun n => decide (n ≤ t)) = some (zs.reverse[k]'(by simpa using hk)) := by
  rw [List.find?_eq_some_iff_getElem]
  refine ⟨by simpa [← hat k hk] using hle,k,by simpa using hk,rfl,fun j hj => ?_⟩
  have h1 := h j hj
  rw [hat j (by omega)] at h1
  simpa using h1
 rw [this,Option.getD_some,hat k hk]
set_option maxRecDepth 100000 in
set_option maxHeartbeats 2000000 in
theorem prec_in (F : Fence) (n : Nat) (h4 : F.fn 100) (h6 : F.fn 120) (h8 : F.fn 152) (hro : F.round = none) (hn : 3 ≤ n) (a : Option Addr) (len cap : Nat) (t : Int) (zs : List Int) (hreach : zs.length * 8 ≤ 140737488351232) (w : World) (hI : Bkw.Ints w.heap.size w (.slice a len cap) zs) :
  CallsIn F n Tryz.prog 100 #[.slice a len cap,.int .i64 t] w fun e W' => e = .returned (.int .i64 (lastLE zs t)) ∧ Below w.heap.size w W' := by
 have h1 : 1 ≤ n := by omega
 refine callsIn_of_wp_marks Tryz.func100 rfl h4 ?_ hro
 simp only [Tryz.ntmps100,List.size_toArray,List.length_cons,List.length_nil,Nat.reduceAdd,Nat.reduceSub,Array.replicate_succ,Array.replicate_zero,List.push_toArray,List.append_toArray,List.nil_append,List.cons_append]
 gi_wp2_with (gi_at_call 120; refine (Bkw.back_in F (n - 1) h6 hro _ _ _ _).mono ?_; rintro e w' ⟨rfl,rfl⟩)
 have bT := Boxed.new w 3 (.int .i64 t)
 have bR := Boxed.new (w.alloc (.cells #[.int .i64 t] 3)) 3 (.int .i64 0)
 have bN := Boxed.new ((w.alloc (.cells #[.int .i64 t] 3)).alloc (.cells #[.int .i64 0] 3)) 28 (.slice a len cap)
 rw [World.size_alloc] at bR
 rw [World.size_alloc,World.size_alloc] at bN
 have bT2 := (bT.alloc (.cells #[.int .i64 0] 3)).alloc (.cells #[.slice a len cap] 28)
 have bR2 := bR.alloc (.cells #[.slice a len cap] 28)
 have hB0 : Below w.heap.size w (((w.alloc (.cells #[.int .i64 t] 3)).alloc (.cells #[.int .i64 0] 3)).alloc (.cells #[.slice a len cap] 28)) := (((Below.refl _ w).alloc (Nat.le_refl _) _).alloc (by simp) _).alloc (by simp; omega) _
 have hII : Bkw.Ints (((w.alloc (.cells #[.int .i64 t] 3)).alloc (.cells #[.int .i64 0] 3)).alloc (.cells #[.slice a len cap] 28)).heap.size (((w.alloc (.cells #[.int .i64 t] 3)).alloc (.cells #[.int .i64 0] 3)).alloc (.cells #[.slice a len cap] 28)) (.slice a len cap) zs := by
  rcases hI.below hB0 with h | ⟨b,off,c,h1,h2,h3⟩
  ·exact .inl h
  ·exact .inr ⟨b,off,c,h1,by simp; omega,h3⟩
 refine wpIn_rangeFunc_ownG hro h1 (gf := 152) (lb := #[.pointer (some ⟨w.heap.size + 1 + 1,0,none⟩)]) rfl h8 (enters_of Tryz.func152 (by kernel_rfl) rfl)
  (Bkw.back_stops F (n - 1) h8 hro (by omega) (w.heap.size + 1 + 1) _ _ zs hreach _ (by simp) rfl bN.cell hII) belowK_t (belowK_b (by simp)) (Below.refl _ _) (fun _ => rfl)
  (fun pre W => ((∀ p ∈ pre,t < p.2) ∧ (W.cell? ⟨w.heap.size,0,none⟩ = some (.int .i64 t)) ∧ W.cell? ⟨w.heap.size + 1,0,none⟩ = some (.int .i64 0) ∧ W.frozen? ⟨w.heap.size + 1,0,none⟩ = false) ∧ Below w.heap.size w W)
  (fun c pre W => (c = .ret ∧ ∃ ini last,pre = ini ++ [last] ∧ (∀ p ∈ ini,t < p.2) ∧ last.2 ≤ t ∧ W.cell? ⟨w.heap.size + 1,0,none⟩ = some (.int .i64 last.2)) ∧ Below w.heap.size w W)
  (OwnFrom.and (Own.from (fun s A B row hs hg hr => ⟨hs.1,cell_kept hs.2.1 hg hr,cell_kept hs.2.2.1 hg hr,(frozen_kept hs.2.2.1 hg hr).trans hs.2.2.2⟩) _) (ownFrom_below (Nat.le_refl _) (by simp; omega)))
  (fun c => OwnFrom.and (Own.from (fun s A B row hs hg hr => by obtain ⟨hc,ini,last,e1,e2,e3,e4⟩ := hs; exact ⟨hc,ini,last,e1,e2,e3,cell_kept e4 hg hr⟩) _) (ownFrom_below (Nat.le_refl _) (by simp; omega)))
  ⟨⟨by simp,bT2.cell,bR2.cell,bR2.frozen⟩,hB0⟩
  (fun x => { tmps := #[.slice a len cap,.int .i64 t,undef,.pointer (some ⟨w.heap.size,0,none⟩),.pointer (some ⟨w.heap.size + 1,0,none⟩),undef,.int .i64 x.2,.slice a len cap,.func (.func 152) #[] #[.pointer (some ⟨w.heap.size + 1 + 1,0,none⟩)],.int .i64 x.1,.int .i64 x.2,undef,undef,undef,undef],defers := [] }) ?assign ?body ?done ?stop
 case assign =>
  intro l x W K hK
  gi_wp2
  exact hK
 case body =>
  rintro l pre x W ⟨⟨hp,hct,hcr,hfr⟩,hB⟩ _
  gi_wp2
  ·have hx : x.2 ≤ t := by assumption
   exact ⟨(KeepsOthers.setCell _ _ _).from _,⟨rfl,pre,x,rfl,hp,hx,World.cell?_setCell_same' _ _ _ (by rw [hcr]; rfl)⟩,hB.setCell (p := ⟨w.heap.size + 1,0,none⟩) (by simp) _⟩
  ·have hx : t < x.2 := by assumption
   exact ⟨KeepsFrom.refl _ _,Below.refl _ _,⟨fun p hp' => (List.mem_append.1 hp').elim (hp p) (fun e => by simp at e; subst e; exact hx),hct,hcr,hfr⟩,hB⟩
 case done =>
  rintro D ys W hD rfl ⟨⟨hne,hct,hcr,hfr⟩,hB⟩ hK
  gi_wp2
  have hK' := (KeepsOthers.setCell W ⟨w.heap.size + 1,0,none⟩ (.int .i64 0)).same D _ hK rfl
  refine ⟨by simp,.inl ⟨_,_,rfl,run_takeDeferred hK',?_⟩⟩
  have hc5 := cell_kept (World.cell?_setCell_same' W ⟨w.heap.size + 1,0,none⟩ (.int .i64 0) (by rw [hcr]; rfl)) (grownBy_putObj' _ D (.deferred none)) (fun r e => by cases e; exact ⟨_,hK',rfl⟩)
  have hl : lastLE zs t = 0 := lastLE_none fun k hk => hne (Bkw.at_ zs zs.length k) (by simp only [Bkw.upto,List.mem_map,List.mem_range]; exact ⟨k,hk,rfl⟩)
  refine ⟨.int .i64 0,?_,by rw [hl],(hB.setCell (p := ⟨w.heap.size + 1,0,none⟩) (by simp) _).trans (belowK_b (w := w) (Nat.le_refl _) _ D _ _ (by simp at hD; omega) hK' rfl rfl)⟩
  simp [results,Tryz.f100,go_sem,hc5]
 case stop =>
  rintro D c pre W hD ⟨k,hk,rfl⟩ ⟨⟨rfl,ini,last,e1,e2,e3,hcr⟩,hB⟩ hK
  gi_wp2
  refine ⟨by simp,.inl ⟨_,_,rfl,run_takeDeferred hK,?_⟩⟩
  have hc5 := cell_kept hcr (grownBy_putObj' _ D (.deferred none)) (fun r e => by cases e; exact ⟨_,hK,rfl⟩)
  obtain ⟨k',rfl⟩ : ∃ k',k = k' + 1 := by
   cases k with
   | zero => simp [Bkw.upto] at e1
   | succ k' => exact ⟨k',rfl⟩
  rw [Bkw.upto_succ] at e1
  obtain ⟨rfl,e5⟩ := List.append_inj' e1 rfl
  obtain rfl : Bkw.at_ zs zs.length k' = last := by simpa using e5
  have hl := lastLE_some (k := k') (by omega) e3 (fun j hj => e2 (Bkw.at_ zs zs.length j) (by simp only [Bkw.upto,List.mem_map,List.mem_range]; exact ⟨j,hj,rfl⟩))
  refine ⟨.int .i64 (Bkw.at_ zs zs.length k').2,?_,by rw [hl],hB.trans (belowK_b (w := w) (Nat.le_refl _) W D _ _ (by simp at hD; omega) hK rfl rfl)⟩
  simp [results,Tryz.f100,go_sem,hc5]
end Go.Proofs
