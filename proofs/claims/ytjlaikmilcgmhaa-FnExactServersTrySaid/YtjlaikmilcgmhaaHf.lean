/- Steps of the laws on registers. -/
import Derived.Test.YtjlaikmilcgmhaaHc
import Derived.Test.YtjlaikmilcgmhaaGt
namespace Go.Proofs.Ytjlaikmilcgmhaa
open Go.RowKit
set_option linter.unusedVariables false
theorem sl_push {k n : Nat} {w : World} {a : Option Addr} {g : Nat → Nat → Value} (h : Sl k w w.heap.size a n g) (o : Obj) : Sl k (w.alloc o) (w.alloc o).heap.size a n g :=
  (h.below (bpush (Below.refl w.heap.size w) o)).mono (bpush (Below.refl w.heap.size w) o).size
theorem sl_step {k n : Nat} {w w' : World} {a : Option Addr} {g : Nat → Nat → Value} (h : Sl k w w.heap.size a n g) (hb : Below w.heap.size w w') : Sl k w' w'.heap.size a n g :=
  (h.below hb).mono hb.size
theorem tick_no {now c : Int} {l : TL} (h : tickOk now l c = false) : tickN now l c = 0 ∧ tickS now l c = [] := by
  unfold tickN tickS; rw [h]; exact ⟨rfl, rfl⟩
theorem tick_yes {now c : Int} {l : TL} (h : tickOk now l c = true) : tickN now l c = c ∧ tickS now l c = tickL c l := by
  unfold tickN tickS; rw [h]; exact ⟨rfl, rfl⟩
theorem tick_t {now c : Int} {l : TL} (h : tickOk now l c = true) : regOk now l = true ∧ now ≤ c ∧ c ≤ 999 := by
  unfold tickOk at h
  simp only [Bool.and_eq_true] at h
  exact ⟨h.1, by simpa [inB] using h.2⟩
theorem tick_mk {now c : Int} {l : TL} (h1 : regOk now l = true) (h2 : now ≤ c) (h3 : c ≤ 999) : tickOk now l c = true := by
  unfold tickOk; rw [h1, inB_t ⟨h2, h3⟩]; rfl
/-- Time goes on in steps. -/
theorem tick_two {now d e : Int} {l : TL} (h : tickOk now l d = true) (h1 : d ≤ e) (h2 : e ≤ 999) : tickOk d (tickL d l) e = true ∧ tickOk now l e = true ∧ tickL e (tickL d l) = tickL e l := by
  obtain ⟨a1, a2, a3⟩ := tick_t h
  exact ⟨tick_mk (tick_valid h) h1 h2, tick_mk a1 (by omega) h2, tick_tick h1 l⟩
theorem once_t {now : Int} {l : TL} {t : Int × Int} (h : tryOk now l t = true) (ha : accT now l t = true) : tryN now (insT t l) t = now ∧ tryS now (insT t l) t = insT t l ∧ tryV now (insT t l) t = false := by
  refine try_rej ?_ ?_
  · unfold tryOk at h ⊢
    simp only [Bool.and_eq_true] at h ⊢
    exact ⟨ins_valid (by unfold tryOk; rw [h.1, h.2]; rfl) ha, h.2⟩
  · unfold accT
    rw [show decide (t ∈ insT t l) = true from decide_eq_true (insT_mem.2 (.inl rfl))]
    simp
theorem full_t {now : Int} {l : TL} {t : Int × Int} (ha : accT now l t = true) : (l.length : Int) < 8 ∧ ((insT t l).length : Int) ≤ 8 := by
  unfold accT at ha
  simp only [Bool.and_eq_true, decide_eq_true_eq] at ha
  rw [insT_length]; omega
theorem acc_ne {now : Int} {l : TL} {t : Int × Int} (ha : accT now l t = true) {k : Nat} (hk : k < l.length) : l.getD k (0, 0) ≠ t := by
  unfold accT at ha
  simp only [Bool.and_eq_true, Bool.not_eq_true', decide_eq_false_iff_not] at ha
  rintro rfl
  apply ha.2
  rw [List.getD_eq_getElem?_getD, List.getElem?_eq_getElem hk]
  exact List.getElem_mem hk
theorem accept_t {now : Int} {l : TL} {t : Int × Int} (h : tryOk now l t = true) (ha : accT now l t = true) : t.2 ≤ now ∧ now - 10 ≤ t.2 ∧ ((insT t l).length : Int) = (l.length : Int) + 1 ∧ True ∧ regOk now (insT t l) = true := by
  have hv := ins_valid h ha
  obtain ⟨h3, _⟩ := regOk_iff.1 hv
  obtain ⟨f1, f2⟩ := full_t ha
  unfold accT at ha
  simp only [Bool.and_eq_true] at ha
  have hb : now - 10 ≤ t.2 ∧ t.2 ≤ now := by simpa [inB] using ha.1.1
  refine ⟨hb.2, ?_, ?_, trivial, hv⟩
  · exact hb.1
  · rw [insT_length]; simp
theorem drewN_add (w : World) (a b : Nat) : (w.drewN a).drewN b = w.drewN (a + b) := by
  simp only [World.drewN, Nat.add_assoc]
theorem reject_t {now : Int} {l : TL} {t : Int × Int} (h : tryV now l t = false) (hr : regOk now l = true) (h1 : 0 ≤ t.1) (h2 : 0 ≤ t.2) (h3 : t.1 ≤ 99) (h4 : t.2 ≤ 999) : tryN now l t = now ∧ tryS now l t = l := by
  have ht : tryOk now l t = true := by
    unfold tryOk tkOk
    rw [hr, inB_t ⟨h1, h3⟩, inB_t ⟨h2, h4⟩]; rfl
  unfold tryV at h
  rw [ht, Bool.true_and] at h
  obtain ⟨a, b, _⟩ := try_rej ht h
  exact ⟨a, b⟩
theorem order_t {now : Int} {l : TL} {t u : Int × Int} (h : tryOk now l t = true) (ha : accT now l t = true) (hv : tryV now (insT t l) u = true) :
    (tryN now l u = now ∧ tryS now l u = insT u l ∧ tryV now l u = true) ∧ tryN now (insT t l) u = now ∧ tryS now (insT t l) u = insT u (insT t l) ∧ (tryN now (insT u l) t = now ∧ tryS now (insT u l) t = insT t (insT u l) ∧ tryV now (insT u l) t = true) ∧ insT u (insT t l) = insT t (insT u l) := by
  unfold tryV at hv
  simp only [Bool.and_eq_true] at hv
  obtain ⟨g, ga⟩ := hv
  obtain ⟨e1, e2, _⟩ := try_acc g ga
  have h' := h
  have g' := g
  unfold tryOk at h' g'
  simp only [Bool.and_eq_true] at h' g'
  have ha' := ha
  have ga' := ga
  unfold accT at ha' ga'
  simp only [Bool.and_eq_true, decide_eq_true_eq, Bool.not_eq_true', decide_eq_false_iff_not, insT_length, insT_mem, not_or] at ha' ga'
  obtain ⟨⟨a1, a2⟩, a3⟩ := ha'
  obtain ⟨⟨b1, b2⟩, b3, b4⟩ := ga'
  have k1 : tryOk now l u = true := by unfold tryOk; rw [h'.1, g'.2]; rfl
  have k2 : accT now l u = true := by
    unfold accT; rw [b1, decide_eq_true (show l.length < 8 by omega), decide_eq_false b4]; rfl
  have k3 : tryOk now (insT u l) t = true := by unfold tryOk; rw [ins_valid k1 k2, h'.2]; rfl
  have k4 : accT now (insT u l) t = true := by
    unfold accT
    rw [a1, decide_eq_true (show (insT u l).length < 8 by rw [insT_length]; omega), decide_eq_false (show ¬ t ∈ insT u l from fun m => (insT_mem.1 m).elim (fun e => b3 e.symm) a3)]; rfl
  refine ⟨try_acc k1 k2, e1, e2, try_acc k3 k4, ins_comm (regOk_iff.1 h'.1).2.2.2 a3 b4 (fun e => b3 e.symm)⟩
theorem forget_t {now d : Int} {l : TL} (h : tickOk now l d = true) {k : Nat} (hk : k < l.length) : tryV d (tickL d l) (l.getD k (0, 0)) = false := by
  have hm : l.getD k (0, 0) ∈ l := by
    rw [List.getD_eq_getElem?_getD, List.getElem?_eq_getElem hk]; exact List.getElem_mem hk
  unfold tryV accT
  cases hb : inB (l.getD k (0, 0)).2 (d - 10) d
  · simp
  · rw [show decide (l.getD k (0, 0) ∈ tickL d l) = true from decide_eq_true (tick_mem hm hb)]; simp
theorem forget_end {now d : Int} {l : TL} (h : tickOk now l d = true) : regOk d (tickL d l) = true ∧ ((tickL d l).length : Int) ≤ (l.length : Int) :=
  ⟨tick_valid h, by have := List.length_filter_le (fun t : Int × Int => decide (d - 10 ≤ t.2)) l; unfold tickL; omega⟩
theorem bkeep {W w' : World} {b o : Nat} {v : Value} (hb : Below W.heap.size W w') (h : W.cell? ⟨b, o, none⟩ = some v) : w'.cell? ⟨b, o, none⟩ = some v :=
  (hb.cell (p := ⟨b, o, none⟩) (World.block_lt_of_cell? _ _ h)).trans h
end Go.Proofs.Ytjlaikmilcgmhaa
