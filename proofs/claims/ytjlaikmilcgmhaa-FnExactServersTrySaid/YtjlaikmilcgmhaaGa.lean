/- Registers: what they hold, in plain terms. -/
import Derived.Test.YtjlaikmilcgmhaaTh
import Derived.Test.YtjlaikmilcgmhaaSl
namespace Go.Proofs.Ytjlaikmilcgmhaa
open Go.RowKit
set_option linter.unusedVariables false

abbrev TL := List (Int × Int)
/-- The tickets as they lie in memory. -/
def tkG (l : List (Int × Int)) (i j : Nat) : Value := match j with
  | 0 => .int .i64 (l.getD i (0, 0)).1
  | _ => .int .i64 (l.getD i (0, 0)).2

/-- The order of tickets. -/
def tkLt (a b : Int × Int) : Bool := decide (a.2 < b.2) || (decide (a.2 = b.2) && decide (a.1 < b.1))
def tkAt (lo hi : Int) (l : List (Int × Int)) (i : Nat) : Bool := tkOk (l.getD i (0, 0)).1 (l.getD i (0, 0)).2 && inB (l.getD i (0, 0)).2 lo hi && (decide (i = 0) || tkLt (l.getD (i - 1) (0, 0)) (l.getD i (0, 0)))
def regOk (now : Int) (l : List (Int × Int)) : Bool := inB now 0 999 && decide (l.length ≤ 8) && (List.range l.length).all (tkAt (now - 10) now l)

theorem regOk_mk {now : Int} {l : List (Int × Int)} (h1 : inB now 0 999 = true) (h3 : l.length ≤ 8) (h4 : ∀ i, i < l.length → tkAt (now - 10) now l i = true) : regOk now l = true := by
  unfold regOk
  rw [h1, decide_eq_true h3]
  simpa using h4
theorem regOk_no {now : Int} {l : List (Int × Int)} {i : Nat} (hi : i < l.length) (h : tkAt (now - 10) now l i = false) : regOk now l = false := by
  unfold regOk
  have : (List.range l.length).all (tkAt (now - 10) now l) = false := by
    rw [List.all_eq_false]
    exact ⟨i, List.mem_range.2 hi, by simp [h]⟩
  rw [this]; simp
theorem regOk_t {now : Int} {l : List (Int × Int)} (h : regOk now l = true) : (0 ≤ now ∧ now ≤ 999) ∧ l.length ≤ 8 ∧ ∀ i, i < l.length → tkAt (now - 10) now l i = true := by
  unfold regOk at h
  simp only [Bool.and_eq_true, decide_eq_true_eq, List.all_eq_true, List.mem_range] at h
  obtain ⟨⟨h1, h2⟩, h3⟩ := h
  exact ⟨by simpa [inB] using h1, h2, h3⟩
/-- The tests of one ticket, in the order in which the program makes them. -/
theorem tk_cases (lo hi : Int) (p : Int × Int) :
    (tkOk p.1 p.2 = false ∧ (tkOk p.1 p.2 && inB p.2 lo hi) = false) ∨ (tkOk p.1 p.2 = true ∧ inB p.2 lo hi = false ∧ (tkOk p.1 p.2 && inB p.2 lo hi) = false) ∨ (tkOk p.1 p.2 = true ∧ inB p.2 lo hi = true ∧ (tkOk p.1 p.2 && inB p.2 lo hi) = true) := by
  cases tkOk p.1 p.2 <;> cases inB p.2 lo hi <;> simp

/-- The order, as the comparison says it. -/
theorem tkLt_irrefl (a : Int × Int) : tkLt a a = false := by simp [tkLt]
theorem tkLt_iff {a b : Int × Int} : tkLt a b = true ↔ a.2 < b.2 ∨ (a.2 = b.2 ∧ a.1 < b.1) := by simp [tkLt]
theorem tkLt_trans {a b c : Int × Int} (h : tkLt a b = true) (k : tkLt b c = true) : tkLt a c = true := by
  rw [tkLt_iff] at h k ⊢; omega
theorem tkLt_asymm {a b : Int × Int} (h : tkLt a b = true) : tkLt b a = false := by
  cases hb : tkLt b a
  · rfl
  · rw [tkLt_iff] at h hb; omega
theorem tkLt_total {a b : Int × Int} (h : tkLt a b = false) (k : tkLt b a = false) : a = b := by
  have h' : ¬ tkLt a b = true := by simp [h]
  have k' : ¬ tkLt b a = true := by simp [k]
  rw [tkLt_iff] at h' k'
  exact Prod.ext (by omega) (by omega)

/-- Sorted strictly. -/
def Srt (l : TL) : Prop := l.Pairwise fun a b => tkLt a b = true
/-- The tickets that are in order; how a register is valid, over lists. -/
theorem srt_of {l : TL} (h : ∀ i, 0 < i → i < l.length → tkLt (l.getD (i - 1) (0, 0)) (l.getD i (0, 0)) = true) : Srt l := by
  unfold Srt
  induction l with
  | nil => exact List.Pairwise.nil
  | cons a l ih =>
    have ih' := ih (fun i h0 hi => by
      have := h (i + 1) (by omega) (by simp; omega)
      obtain ⟨j, rfl⟩ : ∃ j, i = j + 1 := ⟨i - 1, by omega⟩
      simpa using this)
    refine List.Pairwise.cons ?_ ih'
    intro b hb
    cases l with
    | nil => cases hb
    | cons c l =>
      have hac : tkLt a c = true := by simpa using h 1 (by omega) (by simp)
      rcases List.mem_cons.1 hb with rfl | hb'
      · exact hac
      · exact tkLt_trans hac (List.rel_of_pairwise_cons ih' hb')
theorem srt_get {l : TL} (h : Srt l) {i j : Nat} (hij : i < j) (hj : j < l.length) : tkLt (l.getD i (0, 0)) (l.getD j (0, 0)) = true := by
  have := (List.pairwise_iff_getElem.1 h) i j (by omega) hj hij
  rw [List.getD_eq_getElem?_getD, List.getD_eq_getElem?_getD, List.getElem?_eq_getElem hj, List.getElem?_eq_getElem (show i < l.length by omega)]
  exact this
/-- A register is valid: over lists. -/
theorem regOk_iff {now : Int} {l : TL} : regOk now l = true ↔ (0 ≤ now ∧ now ≤ 999) ∧ l.length ≤ 8 ∧ (∀ t ∈ l, tkOk t.1 t.2 = true ∧ inB t.2 (now - 10) now = true) ∧ Srt l := by
  constructor
  · intro h
    obtain ⟨h1, h2, h3⟩ := regOk_t h
    have key : ∀ i, i < l.length → (tkOk (l.getD i (0, 0)).1 (l.getD i (0, 0)).2 = true ∧ inB (l.getD i (0, 0)).2 (now - 10) now = true) ∧ (i = 0 ∨ tkLt (l.getD (i - 1) (0, 0)) (l.getD i (0, 0)) = true) := by
      intro i hi
      have := h3 i hi
      unfold tkAt at this
      simpa using this
    refine ⟨h1, h2, ?_, srt_of fun i h0 hi => ?_⟩
    · intro t ht
      obtain ⟨i, hi, rfl⟩ := List.mem_iff_getElem.1 ht
      have := (key i hi).1
      rwa [List.getD_eq_getElem?_getD, List.getElem?_eq_getElem hi] at this
    · rcases (key i hi).2 with h | h
      · omega
      · exact h
  · rintro ⟨h1, h2, h3, h4⟩
    refine regOk_mk (inB_t h1) h2 fun i hi => ?_
    have hm : l.getD i (0, 0) ∈ l := by
      rw [List.getD_eq_getElem?_getD, List.getElem?_eq_getElem hi]; exact List.getElem_mem _
    obtain ⟨h5, h6⟩ := h3 _ hm
    unfold tkAt
    rw [h5, h6]
    by_cases h0 : i = 0
    · simp [h0]
    · rw [srt_get h4 (i := i - 1) (j := i) (by omega) hi]; simp

/-- Time goes on. -/
def tickL (c : Int) (l : TL) : TL := l.filter fun t => decide (c - 10 ≤ t.2)
def tickOk (now : Int) (l : TL) (c : Int) : Bool := regOk now l && inB c now 999
theorem tick_valid {now c : Int} {l : TL} (h : tickOk now l c = true) : regOk c (tickL c l) = true := by
  unfold tickOk at h
  simp only [Bool.and_eq_true] at h
  obtain ⟨h, hc⟩ := h
  have hc : now ≤ c ∧ c ≤ 999 := by simpa [inB] using hc
  rw [regOk_iff] at h ⊢
  obtain ⟨h1, h2, h3, h4⟩ := h
  refine ⟨by omega, Nat.le_trans (List.length_filter_le _ _) h2, ?_, h4.sublist List.filter_sublist⟩
  intro t ht
  obtain ⟨ht, hd⟩ := List.mem_filter.1 ht
  obtain ⟨g1, g2⟩ := h3 t ht
  have g2 : now - 10 ≤ t.2 ∧ t.2 ≤ now := by simpa [inB] using g2
  have hd : c - 10 ≤ t.2 := by simpa using hd
  exact ⟨g1, inB_t ⟨hd, by omega⟩⟩
theorem tick_tick {a b : Int} (h : a ≤ b) (l : TL) : tickL b (tickL a l) = tickL b l := by
  unfold tickL
  rw [List.filter_filter]
  refine List.filter_congr fun t _ => ?_
  by_cases h1 : b - 10 ≤ t.2
  · simp [h1]; omega
  · simp [h1]

/-- A ticket put into its place. -/
def insT (t : Int × Int) : TL → TL
  | [] => [t]
  | a :: l => if tkLt a t = true then a :: insT t l else t :: a :: l
def accT (now : Int) (l : TL) (t : Int × Int) : Bool := inB t.2 (now - 10) now && decide (l.length < 8) && !decide (t ∈ l)
def tryOk (now : Int) (l : TL) (t : Int × Int) : Bool := regOk now l && tkOk t.1 t.2
theorem insT_mem {t x : Int × Int} {l : TL} : x ∈ insT t l ↔ x = t ∨ x ∈ l := by
  induction l with
  | nil => simp [insT]
  | cons a l ih =>
    unfold insT
    split
    · rw [List.mem_cons, ih, List.mem_cons]
      constructor
      · rintro (h | h | h) <;> simp [h]
      · rintro (h | h | h) <;> simp [h]
    · simp
theorem insT_length (t : Int × Int) (l : TL) : (insT t l).length = l.length + 1 := by
  induction l with
  | nil => rfl
  | cons a l ih =>
    unfold insT
    split
    · simp [ih]
    · simp
theorem insT_srt {t : Int × Int} {l : TL} (h : Srt l) (hn : t ∉ l) : Srt (insT t l) := by
  unfold Srt at *
  induction l with
  | nil => simp [insT]
  | cons a l ih =>
    have ha : ¬ t = a := fun e => hn (by simp [e])
    have hl : t ∉ l := fun e => hn (by simp [e])
    rw [List.pairwise_cons] at h
    unfold insT
    split
    · rename_i hlt
      refine List.Pairwise.cons ?_ (ih h.2 hl)
      intro b hb
      rcases insT_mem.1 hb with rfl | hb
      · exact hlt
      · exact h.1 b hb
    · rename_i hlt
      have hta : tkLt t a = true := by
        cases e : tkLt t a
        · exact absurd (tkLt_total e (by simpa using hlt)) ha
        · rfl
      refine List.Pairwise.cons ?_ (List.pairwise_cons.2 h)
      intro b hb
      rcases List.mem_cons.1 hb with rfl | hb
      · exact hta
      · exact tkLt_trans hta (h.1 b hb)
theorem srt_ext {l k : TL} (hl : Srt l) (hk : Srt k) (h : ∀ t, t ∈ l ↔ t ∈ k) : l = k := by
  unfold Srt at *
  induction l generalizing k with
  | nil =>
    cases k with
    | nil => rfl
    | cons b k => exact absurd ((h b).2 (by simp)) (by simp)
  | cons a l ih =>
    cases k with
    | nil => exact absurd ((h a).1 (by simp)) (by simp)
    | cons b k =>
      rw [List.pairwise_cons] at hl hk
      have hab : a = b := by
        rcases List.mem_cons.1 ((h a).1 (by simp)) with e | e
        · exact e
        · rcases List.mem_cons.1 ((h b).2 (by simp)) with e' | e'
          · exact e'.symm
          · have := tkLt_asymm (hk.1 a e)
            rw [hl.1 b e'] at this
            cases this
      subst hab
      congr 1
      refine ih hl.2 hk.2 fun t => ?_
      have ht := h t
      constructor
      · intro m
        rcases List.mem_cons.1 (ht.1 (by simp [m])) with e | e
        · subst e
          have := hl.1 t m
          rw [tkLt_irrefl] at this; cases this
        · exact e
      · intro m
        rcases List.mem_cons.1 (ht.2 (by simp [m])) with e | e
        · subst e
          have := hk.1 t m
          rw [tkLt_irrefl] at this; cases this
        · exact e
theorem ins_valid {now : Int} {l : TL} {t : Int × Int} (h : tryOk now l t = true) (ha : accT now l t = true) : regOk now (insT t l) = true := by
  unfold tryOk at h
  simp only [Bool.and_eq_true] at h
  obtain ⟨h, ht⟩ := h
  unfold accT at ha
  simp only [Bool.and_eq_true, decide_eq_true_eq, Bool.not_eq_true', decide_eq_false_iff_not] at ha
  obtain ⟨⟨a1, a2⟩, a3⟩ := ha
  rw [regOk_iff] at h ⊢
  obtain ⟨h1, h2, h3, h4⟩ := h
  refine ⟨h1, by rw [insT_length]; omega, ?_, insT_srt h4 a3⟩
  intro x hx
  rcases insT_mem.1 hx with rfl | hx
  · exact ⟨ht, a1⟩
  · exact h3 x hx
/-- Where a ticket belongs: how many are before it. -/
def posT (t : Int × Int) : TL → Nat
  | [] => 0
  | a :: l => if tkLt a t = true then posT t l + 1 else 0
theorem posT_le (t : Int × Int) (l : TL) : posT t l ≤ l.length := by
  induction l with
  | nil => exact Nat.le_refl _
  | cons a l ih => unfold posT; split <;> simp <;> omega
theorem posT_lt {t : Int × Int} {l : TL} {i : Nat} (h : i < posT t l) : tkLt (l.getD i (0, 0)) t = true := by
  induction l generalizing i with
  | nil => simp [posT] at h
  | cons a l ih =>
    unfold posT at h
    split at h
    · cases i with
      | zero => simpa
      | succ i => simpa using ih (by omega)
    · omega
theorem posT_at {t : Int × Int} {l : TL} (h : posT t l < l.length) : tkLt (l.getD (posT t l) (0, 0)) t = false := by
  induction l with
  | nil => simp at h
  | cons a l ih =>
    by_cases ha : tkLt a t = true
    · have e : posT t (a :: l) = posT t l + 1 := by rw [posT, if_pos ha]
      rw [e] at h ⊢
      simpa using ih (by simpa using h)
    · have e : posT t (a :: l) = 0 := by rw [posT, if_neg ha]
      rw [e]
      simpa using ha
theorem posT_uniq {t : Int × Int} {l : TL} {k : Nat} (hk : k ≤ l.length) (h1 : ∀ i, i < k → tkLt (l.getD i (0, 0)) t = true) (h2 : k < l.length → tkLt (l.getD k (0, 0)) t = false) : posT t l = k := by
  have a1 := posT_le t l
  rcases Nat.lt_trichotomy (posT t l) k with h | h | h
  · have := posT_at (t := t) (l := l) (by omega)
    rw [h1 _ h] at this; cases this
  · exact h
  · have := posT_lt h
    rw [h2 (by omega)] at this; cases this
theorem insT_eq (t : Int × Int) (l : TL) : insT t l = l.take (posT t l) ++ t :: l.drop (posT t l) := by
  induction l with
  | nil => rfl
  | cons a l ih =>
    unfold insT posT
    split
    · simp [ih]
    · simp
/-- Seen: in a sorted list the ticket stands at its place. -/
theorem mem_pos {t : Int × Int} {l : TL} (h : Srt l) : t ∈ l ↔ posT t l < l.length ∧ l.getD (posT t l) (0, 0) = t := by
  constructor
  · intro hm
    obtain ⟨i, hi, rfl⟩ := List.mem_iff_getElem.1 hm
    have e : l.getD i (0, 0) = l[i] := by rw [List.getD_eq_getElem?_getD, List.getElem?_eq_getElem hi]; rfl
    have : posT l[i] l = i := by
      refine posT_uniq (by omega) (fun j hj => ?_) (fun _ => ?_)
      · rw [← e]; exact srt_get h hj hi
      · rw [e]; exact tkLt_irrefl _
    rw [this]
    exact ⟨hi, e⟩
  · rintro ⟨h1, h2⟩
    rw [← h2, List.getD_eq_getElem?_getD, List.getElem?_eq_getElem h1]
    exact List.getElem_mem _
theorem posT_mono {t : Int × Int} {l : TL} (h : Srt l) {i : Nat} (hi : i < l.length) (k : tkLt (l.getD i (0, 0)) t = true) : i < posT t l := by
  apply Classical.byContradiction
  intro hn
  have hp : posT t l < l.length := by omega
  have := posT_at hp
  rcases Nat.lt_or_ge (posT t l) i with g | g
  · rw [tkLt_trans (srt_get h g hi) k] at this; cases this
  · rw [show posT t l = i by omega, k] at this; cases this

/-- Two tickets, in either order. -/
theorem ins_comm {l : TL} {t u : Int × Int} (h : Srt l) (ht : t ∉ l) (hu : u ∉ l) (htu : t ≠ u) : insT u (insT t l) = insT t (insT u l) := by
  refine srt_ext (insT_srt (insT_srt h ht) ?_) (insT_srt (insT_srt h hu) ?_) fun x => ?_
  · intro m; rcases insT_mem.1 m with e | e
    · exact htu e.symm
    · exact hu e
  · intro m; rcases insT_mem.1 m with e | e
    · exact htu e
    · exact ht e
  · rw [insT_mem, insT_mem, insT_mem, insT_mem]
    constructor
    · rintro (h | h | h) <;> simp [h]
    · rintro (h | h | h) <;> simp [h]
theorem tick_mem {c : Int} {l : TL} {t : Int × Int} (h : t ∈ l) : inB t.2 (c - 10) c = true → t ∈ tickL c l := by
  intro hb
  have hb : c - 10 ≤ t.2 ∧ t.2 ≤ c := by simpa [inB] using hb
  exact List.mem_filter.2 ⟨h, by simpa using hb.1⟩
end Go.Proofs.Ytjlaikmilcgmhaa
