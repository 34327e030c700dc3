/- What can be derived, in plain terms. -/
import Derived.Test.YtdnkopnhpffcdaaA0
namespace Go.Proofs.Ytdnkopnhpffcdaa
set_option linter.unusedVariables false

abbrev BX := List (Int × List Int)
/-- What can be derived out of boxes and known atoms without the boxes of one key. -/
inductive Der (bs : BX) (kn : List Int) (skip : Int) : Int → Prop
  | known {a : Int} : a ∈ kn → Der bs kn skip a
  | box {b : Int × List Int} {a : Int} : b ∈ bs → b.1 ≠ skip → Der bs kn skip b.1 → a ∈ b.2 → Der bs kn skip a

/-- Sets of atoms, as functions. -/
abbrev AS := Int → Bool
def addA (h : AS) (l : List Int) : AS := fun i => h i || decide (i ∈ l)
def openB (skip : Int) (h : AS) (b : Int × List Int) : AS := if (h b.1 && !decide (b.1 = skip)) = true then addA h b.2 else h
def passB (skip : Int) (bs : BX) (h : AS) : AS := bs.foldl (openB skip) h
def h0 (kn : List Int) : AS := fun i => decide (i ∈ kn)
def rounds (skip : Int) (bs : BX) (h : AS) : Nat → AS
  | 0 => h
  | k + 1 => passB skip bs (rounds skip bs h k)
/-- A set within another. -/
def Sub (h g : AS) : Prop := ∀ i, h i = true → g i = true
theorem Sub.refl (h : AS) : Sub h h := fun _ e => e
theorem Sub.trans {a b c : AS} (h : Sub a b) (k : Sub b c) : Sub a c := fun i e => k i (h i e)
theorem sub_add (h : AS) (l : List Int) : Sub h (addA h l) := fun i e => by simp [addA, e]
theorem sub_open (skip : Int) (h : AS) (b : Int × List Int) : Sub h (openB skip h b) := by
  unfold openB; split
  · exact sub_add h _
  · exact Sub.refl h
theorem sub_pass (skip : Int) (bs : BX) (h : AS) : Sub h (passB skip bs h) := by
  unfold passB
  induction bs generalizing h with
  | nil => exact Sub.refl h
  | cons b bs ih => exact (sub_open skip h b).trans (ih _)
theorem add_same {h : AS} {l : List Int} (e : ∀ a ∈ l, h a = true) : addA h l = h := by
  funext i
  unfold addA
  cases hi : h i
  · rw [Bool.false_or, decide_eq_false_iff_not]
    intro hm; rw [e i hm] at hi; cases hi
  · rfl
theorem addA_mem (h : AS) {l : List Int} {a : Int} (m : a ∈ l) : addA h l a = true := by simp [addA, m]
/-- A box is open in a set: what it holds is in the set. -/
def Opn (skip : Int) (h : AS) (b : Int × List Int) : Prop := h b.1 = true → b.1 ≠ skip → ∀ a ∈ b.2, h a = true
theorem open_same {skip : Int} {h : AS} {b : Int × List Int} (o : Opn skip h b) : openB skip h b = h := by
  unfold openB
  split
  · rename_i e
    simp only [Bool.and_eq_true, Bool.not_eq_true', decide_eq_false_iff_not] at e
    exact add_same (o e.1 e.2)
  · rfl
theorem open_in {skip : Int} {h : AS} {b : Int × List Int} (h1 : h b.1 = true) (h2 : b.1 ≠ skip) : ∀ a ∈ b.2, openB skip h b a = true := by
  intro a ha
  unfold openB
  rw [if_pos (by simp [h1, h2])]
  exact addA_mem _ ha
theorem pass_same {skip : Int} {bs : BX} {h : AS} (o : ∀ b ∈ bs, Opn skip h b) : passB skip bs h = h := by
  unfold passB
  induction bs with
  | nil => rfl
  | cons b bs ih =>
    rw [List.foldl_cons, open_same (o b (by simp))]
    exact ih fun c hc => o c (by simp [hc])
/-- A pass opens what is open ahead of it. -/
theorem pass_in {skip : Int} {bs : BX} {h : AS} {b : Int × List Int} (hb : b ∈ bs) (h1 : h b.1 = true) (h2 : b.1 ≠ skip) : ∀ a ∈ b.2, passB skip bs h a = true := by
  unfold passB
  induction bs generalizing h with
  | nil => cases hb
  | cons c bs ih =>
    rcases List.mem_cons.1 hb with rfl | hb'
    · intro a ha
      exact sub_pass skip bs _ a (open_in h1 h2 a ha)
    · exact ih hb' (sub_open skip h c _ h1)
/-- Where a pass changes nothing, all is open. -/
theorem pass_fix {skip : Int} {bs : BX} {h : AS} (e : passB skip bs h = h) : ∀ b ∈ bs, Opn skip h b := by
  intro b hb h1 h2 a ha
  have := pass_in hb h1 h2 a ha
  rwa [e] at this
/-- How many boxes have their key in a set. -/
def cnt (bs : BX) (h : AS) : Nat := (bs.filter fun b => h b.1).length
theorem cnt_le (bs : BX) (h : AS) : cnt bs h ≤ bs.length := List.length_filter_le _ _
theorem cnt_mono {bs : BX} {h g : AS} (s : Sub h g) : cnt bs h ≤ cnt bs g := by
  unfold cnt
  induction bs with
  | nil => exact Nat.le_refl _
  | cons b bs ih =>
    simp only [List.filter_cons]
    cases e : h b.1
    · cases e' : g b.1 <;> simp <;> omega
    · rw [s _ e]; simpa using ih
theorem cnt_lt {bs : BX} {h g : AS} (s : Sub h g) {b : Int × List Int} (hb : b ∈ bs) (h1 : h b.1 = false) (h2 : g b.1 = true) : cnt bs h < cnt bs g := by
  unfold cnt
  induction bs with
  | nil => cases hb
  | cons c bs ih =>
    simp only [List.filter_cons]
    rcases List.mem_cons.1 hb with rfl | hb'
    · have := cnt_mono (bs := bs) s
      unfold cnt at this
      simp [h1, h2]; omega
    · have := ih hb'
      cases e : h c.1
      · cases e' : g c.1 <;> simp <;> omega
      · rw [s _ e]; simpa using this
/-- A second pass that changes something has a box more to open. -/
theorem pass_pass {skip : Int} {bs : BX} {h : AS} (e : passB skip bs (passB skip bs h) ≠ passB skip bs h) : cnt bs h < cnt bs (passB skip bs h) := by
  have : ¬ ∀ b ∈ bs, Opn skip (passB skip bs h) b := fun o => e (pass_same o)
  obtain ⟨b, hb⟩ := Classical.not_forall.1 this
  obtain ⟨hb, ho⟩ := Classical.not_imp.1 hb
  unfold Opn at ho
  obtain ⟨h1, ho⟩ := Classical.not_imp.1 ho
  obtain ⟨h2, ho⟩ := Classical.not_imp.1 ho
  refine cnt_lt (sub_pass skip bs h) hb ?_ h1
  cases h3 : h b.1
  · rfl
  · exact absurd (pass_in hb h3 h2) ho
theorem rounds_fix_step {skip : Int} {bs : BX} {h : AS} {k : Nat} (e : rounds skip bs h (k + 1) = rounds skip bs h k) : rounds skip bs h (k + 2) = rounds skip bs h (k + 1) := by
  show passB skip bs (rounds skip bs h (k + 1)) = passB skip bs (rounds skip bs h k)
  rw [e]
/-- Either a round is the last that changes something or as many boxes are open. -/
theorem rounds_cnt (skip : Int) (bs : BX) (h : AS) (k : Nat) : rounds skip bs h (k + 2) = rounds skip bs h (k + 1) ∨ k + 1 ≤ cnt bs (rounds skip bs h (k + 1)) := by
  induction k with
  | zero =>
    by_cases e : rounds skip bs h 2 = rounds skip bs h 1
    · exact .inl e
    · exact .inr (Nat.lt_of_le_of_lt (Nat.zero_le _) (pass_pass (h := h) e))
  | succ k ih =>
    rcases ih with e | c
    · exact .inl (rounds_fix_step e)
    · by_cases e : rounds skip bs h (k + 3) = rounds skip bs h (k + 2)
      · exact .inl e
      · have := pass_pass (h := rounds skip bs h (k + 1)) e
        exact .inr (by show k + 2 ≤ cnt bs (passB skip bs (rounds skip bs h (k + 1))); omega)
theorem rounds_fix (skip : Int) (bs : BX) (h : AS) : passB skip bs (rounds skip bs h (bs.length + 1)) = rounds skip bs h (bs.length + 1) := by
  rcases rounds_cnt skip bs h bs.length with e | c
  · exact e
  · have := cnt_le bs (rounds skip bs h (bs.length + 1)); omega
/-- The set that both programs compute. -/
def fin (bs : BX) (kn : List Int) (skip : Int) : AS := rounds skip bs (h0 kn) (bs.length + 1)
def Good (bs : BX) (kn : List Int) (skip : Int) (h : AS) : Prop := Sub (h0 kn) h ∧ ∀ i, h i = true → Der bs kn skip i
theorem good_zero (bs : BX) (kn : List Int) (skip : Int) : Good bs kn skip (h0 kn) :=
  ⟨Sub.refl _, fun i e => .known (by simpa [h0] using e)⟩
theorem good_open {bs : BX} {kn : List Int} {skip : Int} {h : AS} (g : Good bs kn skip h) {b : Int × List Int} (hb : b ∈ bs) : Good bs kn skip (openB skip h b) := by
  refine ⟨g.1.trans (sub_open _ _ _), fun i e => ?_⟩
  unfold openB at e
  split at e
  · rename_i c
    simp only [Bool.and_eq_true, Bool.not_eq_true', decide_eq_false_iff_not] at c
    simp only [addA, Bool.or_eq_true, decide_eq_true_eq] at e
    rcases e with e | e
    · exact g.2 i e
    · exact .box hb c.2 (g.2 _ c.1) e
  · exact g.2 i e
theorem good_pass' {bs cs : BX} {kn : List Int} {skip : Int} {h : AS} (g : Good bs kn skip h) (hc : ∀ b ∈ cs, b ∈ bs) : Good bs kn skip (passB skip cs h) := by
  unfold passB
  induction cs generalizing h with
  | nil => exact g
  | cons b cs ih => exact ih (good_open g (hc b (by simp))) fun c m => hc c (by simp [m])
theorem good_pass {bs : BX} {kn : List Int} {skip : Int} {h : AS} (g : Good bs kn skip h) : Good bs kn skip (passB skip bs h) := good_pass' g fun _ m => m
theorem good_rounds (bs : BX) (kn : List Int) (skip : Int) (k : Nat) : Good bs kn skip (rounds skip bs (h0 kn) k) := by
  induction k with
  | zero => exact good_zero bs kn skip
  | succ k ih => exact good_pass ih
/-- A good set that a pass leaves is what can be derived. -/
theorem good_der {bs : BX} {kn : List Int} {skip : Int} {h : AS} (g : Good bs kn skip h) (e : passB skip bs h = h) (i : Int) : h i = true ↔ Der bs kn skip i := by
  refine ⟨g.2 i, fun d => ?_⟩
  induction d with
  | known m => exact g.1 _ (by simp [h0, m])
  | box hb hs _ ha ih => exact pass_fix e _ hb ih hs _ ha
theorem fin_der (bs : BX) (kn : List Int) (skip : Int) (i : Int) : fin bs kn skip i = true ↔ Der bs kn skip i :=
  good_der (good_rounds bs kn skip _) (rounds_fix skip bs _) i
theorem good_fin {bs : BX} {kn : List Int} {skip : Int} {h : AS} (g : Good bs kn skip h) (e : passB skip bs h = h) : h = fin bs kn skip := by
  funext i
  rw [Bool.eq_iff_iff, good_der g e, fin_der]

/-- Laws of what can be derived. -/
theorem Der.more {bs cs : BX} {kn km : List Int} {skip a : Int} (hb : ∀ b ∈ bs, b ∈ cs) (hk : ∀ x ∈ kn, x ∈ km) (d : Der bs kn skip a) : Der cs km skip a := by
  induction d with
  | known m => exact .known (hk _ m)
  | box m hs _ ha ih => exact .box (hb _ m) hs ih ha
theorem Der.step {bs : BX} {kn : List Int} {skip a : Int} (d : Der bs kn skip a) : a ∈ kn ∨ ∃ b ∈ bs, b.1 ≠ skip ∧ Der bs kn skip b.1 ∧ a ∈ b.2 := by
  cases d with
  | known m => exact .inl m
  | box m hs d ha => exact .inr ⟨_, m, hs, d, ha⟩
/-- Boxes that cannot be opened do not matter. -/
theorem der_some {bs cs : BX} {kn : List Int} {skip : Int} (h1 : ∀ b ∈ cs, b ∈ bs) (h2 : ∀ b ∈ bs, Der bs kn skip b.1 → b ∈ cs) (a : Int) : Der cs kn skip a ↔ Der bs kn skip a := by
  refine ⟨Der.more h1 fun _ m => m, fun d => ?_⟩
  induction d with
  | known m => exact .known m
  | box m hs d ha ih => exact .box (h2 _ m d) hs ih ha
/-- Without the boxes of a key. -/
theorem der_without {bs : BX} {kn : List Int} {key : Int} (hz : ∀ b ∈ bs, b.1 ≠ 0) (a : Int) : Der (bs.filter fun b => !decide (b.1 = key)) kn 0 a ↔ Der bs kn key a := by
  constructor
  · intro d
    induction d with
    | known m => exact .known m
    | box m _ _ ha ih =>
      obtain ⟨m, hk⟩ := List.mem_filter.1 m
      exact .box m (by simpa using hk) ih ha
  · intro d
    induction d with
    | known m => exact .known m
    | box m hs _ ha ih => exact .box (List.mem_filter.2 ⟨m, by simpa using hs⟩) (hz _ m) ih ha
theorem Der.any {bs : BX} {kn : List Int} {skip a : Int} (hz : ∀ b ∈ bs, b.1 ≠ 0) (d : Der bs kn skip a) : Der bs kn 0 a := by
  induction d with
  | known m => exact .known m
  | box m _ _ ha ih => exact .box m (hz _ m) ih ha
/-- A guard itself can be derived. -/
theorem der_guard {bs : BX} {kn : List Int} {key a : Int} (d : Der bs kn 0 a) (n : ¬ Der bs kn key a) : Der bs kn 0 key := by
  apply Classical.byContradiction
  intro hk
  apply n
  induction d with
  | known m => exact .known m
  | box m hs d ha ih =>
    refine .box m ?_ (Classical.byContradiction fun h => ?_) ha
    · rintro rfl; exact hk d
    · exact h (ih h)

/-- Valid boxes, valid known atoms. -/
def atomOk (a : Int) : Bool := inB a 1 20
def boxOk (b : Int × List Int) : Bool := atomOk b.1 && (decide (1 ≤ b.2.length) && decide (b.2.length ≤ 4)) && b.2.all atomOk
def boxesOk (bs : BX) : Bool := decide (bs.length ≤ 10) && bs.all boxOk
def knownOk (kn : List Int) : Bool := decide (kn.length ≤ 20) && kn.all atomOk
def secOk (bs : BX) (kn : List Int) : Bool := boxesOk bs && knownOk kn
theorem atomOk_iff {a : Int} : atomOk a = true ↔ 1 ≤ a ∧ a ≤ 20 := by simp [atomOk, inB]
theorem der_atom {bs : BX} {kn : List Int} {skip a : Int} (h : secOk bs kn = true) (d : Der bs kn skip a) : 1 ≤ a ∧ a ≤ 20 := by
  unfold secOk boxesOk knownOk at h
  simp only [Bool.and_eq_true, List.all_eq_true, decide_eq_true_eq] at h
  obtain ⟨⟨_, h1⟩, _, h2⟩ := h
  cases d with
  | known m => exact atomOk_iff.1 (h2 _ m)
  | box m hs _ ha =>
    have := h1 _ m
    unfold boxOk at this
    simp only [Bool.and_eq_true, List.all_eq_true] at this
    exact atomOk_iff.1 (this.2 _ ha)
/-- The atoms from 1 on in order. -/
def atomsTo (k : Nat) : List Int := (List.range k).map fun (i : Nat) => (i : Int) + 1
def setL (h : AS) : List Int := (atomsTo 20).filter fun a => h a
def derL (bs : BX) (kn : List Int) : List Int := if secOk bs kn = true then setL (fin bs kn 0) else []
def drvOk (bs : BX) (kn : List Int) (a : Int) : Bool := secOk bs kn && fin bs kn 0 a
def openL (bs : BX) (kn : List Int) : List Nat := if secOk bs kn = true then (List.range bs.length).filter fun i => fin bs kn 0 (bs.getD i (0, [])).1 else []
def guardL (bs : BX) (kn : List Int) (a : Int) : List Int := if drvOk bs kn a = true then (atomsTo 20).filter fun k => !fin bs kn k a else []
theorem atoms_mem {k : Nat} {a : Int} : a ∈ atomsTo k ↔ 1 ≤ a ∧ a ≤ k := by
  unfold atomsTo
  simp only [List.mem_map, List.mem_range]
  constructor
  · rintro ⟨i, hi, rfl⟩; omega
  · rintro ⟨h1, h2⟩; exact ⟨(a - 1).toNat, by omega, by omega⟩
theorem setL_mem {h : AS} {a : Int} : a ∈ setL h ↔ (1 ≤ a ∧ a ≤ 20) ∧ h a = true := by
  unfold setL
  rw [List.mem_filter, atoms_mem]; rfl
theorem derL_mem {bs : BX} {kn : List Int} {a : Int} : a ∈ derL bs kn ↔ secOk bs kn = true ∧ Der bs kn 0 a := by
  unfold derL
  by_cases h : secOk bs kn = true
  · rw [if_pos h, setL_mem, fin_der]
    constructor
    · rintro ⟨_, d⟩; exact ⟨h, d⟩
    · rintro ⟨_, d⟩; exact ⟨der_atom h d, d⟩
  · rw [if_neg h]; simp [h]
theorem drvOk_mem {bs : BX} {kn : List Int} {a : Int} : drvOk bs kn a = decide (a ∈ derL bs kn) := by
  rw [Bool.eq_iff_iff, decide_eq_true_eq, derL_mem]
  unfold drvOk
  rw [Bool.and_eq_true, fin_der]
theorem setL_congr {h g : AS} (e : ∀ a, h a = true ↔ g a = true) : setL h = setL g := by
  have : h = g := by funext a; rw [Bool.eq_iff_iff]; exact e a
  rw [this]
theorem fin_congr {bs cs : BX} {kn km : List Int} {s t : Int} (e : ∀ a, Der bs kn s a ↔ Der cs km t a) : fin bs kn s = fin cs km t := by
  funext a; rw [Bool.eq_iff_iff, fin_der, fin_der]; exact e a
theorem atoms_len (k : Nat) : (atomsTo k).length = k := by simp [atomsTo]
theorem atoms_succ (k : Nat) : atomsTo (k + 1) = atomsTo k ++ [(k : Int) + 1] := by
  unfold atomsTo
  rw [List.range_succ, List.map_append]; rfl
theorem setL_len (h : AS) : (setL h).length ≤ 20 := by
  have := List.length_filter_le (fun a => h a) (atomsTo 20)
  rw [atoms_len] at this
  exact this
end Go.Proofs.Ytdnkopnhpffcdaa
