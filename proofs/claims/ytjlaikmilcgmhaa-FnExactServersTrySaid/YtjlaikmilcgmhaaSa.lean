/- Servers, in plain terms, and as they lie in memory. -/
import Derived.Test.YtjlaikmilcgmhaaHf
import Derived.Test.YtjlaikmilcgmhaaHb
import Derived.Test.YtjlaikmilcgmhaaNs
import Derived.Deep.AppendLies
namespace Go.Proofs.Ytjlaikmilcgmhaa
open Go.RowKit
set_option linter.unusedVariables false

abbrev SV := List (Int × TL)
def srvOk (ss : SV) : Bool := inB (ss.length : Int) 1 4 && ss.all fun s => regOk s.1 s.2
def sTryOk (ss : SV) (at' : Int) (t : Int × Int) : Bool := srvOk ss && tkOk t.1 t.2 && inB at' 0 ((ss.length : Int) - 1)
def sAcc (ss : SV) (at' : Int) (t : Int × Int) : Bool := decide (at' = t.1 % (ss.length : Int)) && accT (ss.getD at'.toNat (0, [])).1 (ss.getD at'.toNat (0, [])).2 t
def sPut (ss : SV) (at' : Int) (t : Int × Int) : SV := if sAcc ss at' t = true then ss.set at'.toNat ((ss.getD at'.toNat (0, [])).1, insT t (ss.getD at'.toNat (0, [])).2) else ss
def sRes (ss : SV) (at' : Int) (t : Int × Int) : SV := if sTryOk ss at' t = true then sPut ss at' t else []
def sV (ss : SV) (at' : Int) (t : Int × Int) : Bool := sTryOk ss at' t && sAcc ss at' t
theorem getD_mem {α : Type} {l : List α} {d : α} {k : Nat} (hk : k < l.length) : l.getD k d ∈ l := by
  rw [List.getD_eq_getElem?_getD, List.getElem?_eq_getElem hk]; exact List.getElem_mem hk
theorem take_snoc {α : Type} {l : List α} {d : α} {k : Nat} (hk : k < l.length) : l.take (k + 1) = l.take k ++ [l.getD k d] := by
  rw [List.take_add_one, List.getD_eq_getElem?_getD, List.getElem?_eq_getElem hk]; rfl
theorem getD_set {α : Type} {l : List α} {d x : α} {i j : Nat} (hi : i < l.length) : (l.set i x).getD j d = if j = i then x else l.getD j d := by
  rw [List.getD_eq_getElem?_getD, List.getD_eq_getElem?_getD, List.getElem?_set]
  by_cases e : i = j
  · subst e; simp [hi]
  · rw [if_neg e, if_neg (Ne.symm e)]
theorem srv_t {ss : SV} (h : srvOk ss = true) : (1 ≤ ss.length ∧ ss.length ≤ 4) ∧ ∀ i, i < ss.length → regOk (ss.getD i (0, [])).1 (ss.getD i (0, [])).2 = true := by
  unfold srvOk at h
  simp only [Bool.and_eq_true, List.all_eq_true] at h
  have h1 : 1 ≤ (ss.length : Int) ∧ (ss.length : Int) ≤ 4 := by simpa [inB] using h.1
  exact ⟨by omega, fun i hi => h.2 _ (getD_mem hi)⟩
theorem srv_mk {ss : SV} (h1 : 1 ≤ ss.length ∧ ss.length ≤ 4) (h2 : ∀ i, i < ss.length → regOk (ss.getD i (0, [])).1 (ss.getD i (0, [])).2 = true) : srvOk ss = true := by
  unfold srvOk
  simp only [Bool.and_eq_true, List.all_eq_true]
  refine ⟨inB_t (by omega), fun s m => ?_⟩
  obtain ⟨i, hi, rfl⟩ := List.mem_iff_getElem.1 m
  have := h2 i hi
  rwa [List.getD_eq_getElem?_getD, List.getElem?_eq_getElem hi] at this
theorem srv_no {ss : SV} {i : Nat} (hi : i < ss.length) (h : regOk (ss.getD i (0, [])).1 (ss.getD i (0, [])).2 = false) : srvOk ss = false := by
  unfold srvOk
  have : (ss.all fun s => regOk s.1 s.2) = false := by
    rw [List.all_eq_false]
    exact ⟨_, getD_mem (d := (0, [])) hi, by simp only [h]; simp⟩
  rw [this, Bool.and_false]
theorem stry_t {ss : SV} {A : Int} {t : Int × Int} (h : sTryOk ss A t = true) : srvOk ss = true ∧ tkOk t.1 t.2 = true ∧ 0 ≤ A ∧ A < ss.length := by
  unfold sTryOk at h
  simp only [Bool.and_eq_true] at h
  have : 0 ≤ A ∧ A ≤ (ss.length : Int) - 1 := by simpa [inB] using h.2
  exact ⟨h.1.1, h.1.2, by omega, by omega⟩
theorem stry_mk {ss : SV} {A : Int} {t : Int × Int} (h1 : srvOk ss = true) (h2 : tkOk t.1 t.2 = true) (h3 : 0 ≤ A) (h4 : A < ss.length) : sTryOk ss A t = true := by
  unfold sTryOk; rw [h1, h2, inB_t ⟨h3, by omega⟩]; rfl
/-- What a try leaves. -/
theorem sput_len (ss : SV) (A : Int) (t : Int × Int) : (sPut ss A t).length = ss.length := by
  unfold sPut; split <;> simp
theorem sput_ok {ss : SV} {A : Int} {t : Int × Int} (h : sTryOk ss A t = true) : srvOk (sPut ss A t) = true := by
  obtain ⟨h1, h2, h3, h4⟩ := stry_t h
  unfold sPut
  split
  · rename_i ha
    obtain ⟨g1, g2⟩ := srv_t h1
    refine srv_mk (by simpa using g1) fun i hi => ?_
    rw [getD_set (by omega)]
    split
    · unfold sAcc at ha
      simp only [Bool.and_eq_true] at ha
      have hr := g2 A.toNat (by omega)
      exact ins_valid (by unfold tryOk; rw [hr, h2]; rfl) ha.2
    · exact g2 i (by simpa using hi)
  · exact h1
theorem sput_other {ss : SV} {A : Int} {t : Int × Int} (h3 : 0 ≤ A) (h4 : A < ss.length) {i : Nat} (hi : (i : Int) ≠ A) : (sPut ss A t).getD i (0, []) = ss.getD i (0, []) := by
  unfold sPut
  split
  · rw [getD_set (by omega), if_neg (by omega)]
  · rfl
/-- A ticket that was accepted is not accepted again, anywhere. -/
theorem sacc_again {ss : SV} {A B : Int} {t : Int × Int} (h : sTryOk ss A t = true) (ha : sAcc ss A t = true) (hB : 0 ≤ B ∧ B < ss.length) : sAcc (sPut ss A t) B t = false := by
  obtain ⟨h1, h2, h3, h4⟩ := stry_t h
  cases hb : sAcc (sPut ss A t) B t
  · rfl
  · unfold sAcc at ha hb
    simp only [Bool.and_eq_true, decide_eq_true_eq] at ha hb
    rw [sput_len] at hb
    obtain rfl : B = A := by rw [hb.1, ha.1]
    have e : sPut ss B t = ss.set B.toNat ((ss.getD B.toNat (0, [])).1, insT t (ss.getD B.toNat (0, [])).2) := by
      unfold sPut sAcc
      rw [if_pos (by rw [decide_eq_true ha.1, ha.2]; rfl)]
    rw [e, getD_set (by omega), if_pos rfl] at hb
    have := hb.2
    unfold accT at this
    simp only [Bool.and_eq_true, Bool.not_eq_true', decide_eq_false_iff_not] at this
    exact absurd (insT_mem.2 (.inl rfl)) this.2

/-- Servers with where their tickets lie. -/
abbrev SR := List (Int × TL × Option Addr × Nat)
def inS (t : Int × TL × Option Addr × Nat) : Value := .slice t.2.2.1 t.2.1.length t.2.2.2
def srC (sl : SR) : List Value := sl.flatMap fun t => [.int .i64 t.1, inS t]
def srvs (sl : SR) : SV := sl.map fun t => (t.1, t.2.1)
theorem srvs_len (sl : SR) : (srvs sl).length = sl.length := by simp [srvs]
theorem srvs_at (sl : SR) (i : Nat) : (srvs sl).getD i (0, []) = ((sl.getD i (0, [], none, 0)).1, (sl.getD i (0, [], none, 0)).2.1) := by
  unfold srvs
  rw [List.getD_eq_getElem?_getD, List.getD_eq_getElem?_getD, List.getElem?_map]
  cases sl[i]? <;> rfl
theorem srvs_snoc (sl : SR) (t : Int × TL × Option Addr × Nat) : srvs (sl ++ [t]) = srvs sl ++ [(t.1, t.2.1)] := by simp [srvs]
theorem srC_snoc (sl : SR) (t : Int × TL × Option Addr × Nat) : srC (sl ++ [t]) = srC sl ++ [.int .i64 t.1, .slice t.2.2.1 t.2.1.length t.2.2.2] := by simp [srC, inS]
theorem srC_at (sl : SR) : ∀ i, i < sl.length → (srC sl)[i * 2]? = some (.int .i64 (sl.getD i (0, [], none, 0)).1) ∧ (srC sl)[i * 2 + 1]? = some (inS (sl.getD i (0, [], none, 0))) := by
  induction sl with
  | nil => intro i hi; simp at hi
  | cons t sl ih =>
    intro i hi
    cases i with
    | zero => exact ⟨by simp [srC], by simp [srC]⟩
    | succ i =>
      have := ih i (by simpa using hi)
      have e : ∀ k, (srC (t :: sl))[k + 2]? = (srC sl)[k]? := fun k => by simp [srC]
      rw [show (i + 1) * 2 = i * 2 + 2 by omega, show i * 2 + 2 + 1 = i * 2 + 1 + 2 by omega, e, e]
      simpa using this
theorem infoRg : (Try.prog.info? 42).map (fun i => (i.zero, i.size, i.bytes)) = some (some (.agg #[.int .i64 0, .slice none 0 0]), 2, 32) := by kernel_rfl
/-- A row of servers of one's own, with their tickets. -/
def SvR (w : World) (base : Nat) (v : Value) (sl : SR) : Prop :=
  w.ownsRow base 42 2 v sl.length (srC sl) ∧ ∀ t ∈ sl, w.ownsRow base 30 2 (inS t) t.2.1.length (flat t.2.1)
theorem SvR.lo {w w' : World} {base bk : Nat} {v : Value} {sl : SR} (h : SvR w base v sl) (hl : Lo bk w w') (hb : bk < base) : SvR w' base v sl :=
  ⟨row_lo h.1 hl hb, fun t m => row_lo (h.2 t m) hl hb⟩
theorem SvR.below {w w' : World} {base : Nat} {v : Value} {sl : SR} (h : SvR w base v sl) (hl : Below w.heap.size w w') : SvR w' base v sl :=
  ⟨row_below h.1 hl, fun t m => row_below (h.2 t m) hl⟩
theorem SvR.alloc {w : World} {base : Nat} {v : Value} {sl : SR} (h : SvR w base v sl) (o : Obj) : SvR (w.alloc o) base v sl := h.below (bpush (Below.refl _ _) o)
theorem row_grown {w w' : World} {base k n : Nat} {e : TypeId} {v : Value} {xs : List Value} {r : Option Nat} (h : w.ownsRow base e k v n xs) (hg : w.grownBy w' r) (hne : ∀ g, v.ownBlock = some g → r ≠ some g) : w'.ownsRow base e k v n xs := by
  obtain ⟨hl, h | ⟨g, cap, cur, h, hb, hc, h'⟩⟩ := h
  · exact ⟨hl, .inl h⟩
  · have hlt : g < w.heap.size := (Array.getElem?_eq_some_iff.1 hc).1
    exact ⟨hl, .inr ⟨g, cap, cur, h, hb, (hg.block g hlt (Ne.symm (hne g (by rw [h]; rfl)))).trans hc, h'⟩⟩
theorem row_nev {w : World} {base k n b : Nat} {e T : TypeId} {v : Value} {cs : Array Value} {xs : List Value} (h : w.ownsRow base e k v n xs) (hb : Blk w b cs T) (hT : e ≠ T) : v.ownBlock ≠ some b := by
  obtain ⟨a, cap, rfl⟩ := row_form h
  exact row_ne h hb hT
theorem rows_ne {w : World} {b1 b2 k1 k2 n1 n2 : Nat} {e1 e2 : TypeId} {v1 v2 : Value} {x1 x2 : List Value} (h : w.ownsRow b1 e1 k1 v1 n1 x1) (k : w.ownsRow b2 e2 k2 v2 n2 x2) (hT : e1 ≠ e2) : ∀ g, v1.ownBlock = some g → v2.ownBlock ≠ some g := by
  intro g hg
  obtain ⟨a, cap, rfl⟩ := row_form h
  obtain ⟨_, ⟨h0, _⟩ | ⟨g', cap', cur, hv, _, hc, _⟩⟩ := h
  · rw [h0] at hg; simp [Value.ownBlock] at hg
  · rw [hv] at hg
    simp only [Value.ownBlock, Option.some.injEq] at hg
    subst hg
    exact row_nev k (T := e1) hc (Ne.symm hT)
theorem own_srv {w : World} {base b : Nat} (h : Blk w b #[] 42) (hb : base ≤ b) : SvR w base (.slice (some ⟨b, 0, none⟩) (0 : Nat) 0) [] :=
  ⟨⟨rfl, .inr ⟨b, 0, #[], rfl, hb, h, Nat.le_refl _, by unfold maxLen; omega, rfl, rfl⟩⟩, fun t m => by cases m⟩
theorem nil_srv (w : World) (base : Nat) : SvR w base (.slice none 0 0) [] := ⟨⟨rfl, .inl ⟨rfl, rfl⟩⟩, fun t m => by cases m⟩
theorem SvR.snoc {w : World} {base g cap : Nat} {sl : SR} {t : Int × TL × Option Addr × Nat} (h : w.ownsRow base 42 2 (.slice (some ⟨g, 0, none⟩) (sl.length + 1) cap) (sl.length + 1) (srC sl ++ [.int .i64 t.1, .slice t.2.2.1 t.2.1.length t.2.2.2]))
    (h1 : ∀ t ∈ sl, w.ownsRow base 30 2 (inS t) t.2.1.length (flat t.2.1)) (h2 : w.ownsRow base 30 2 (inS t) t.2.1.length (flat t.2.1)) : SvR w base (.slice (some ⟨g, 0, none⟩) (sl.length + 1) cap) (sl ++ [t]) := by
  refine ⟨by rw [srC_snoc, List.length_append]; exact h, fun u m => ?_⟩
  rcases List.mem_append.1 m with m | m
  · exact h1 u m
  · rw [List.mem_singleton.1 m]; exact h2
/-- Servers of one's own. -/
def svG (sl : SR) (i j : Nat) : Value := match j with
  | 0 => .int .i64 (sl.getD i (0, [], none, 0)).1
  | _ => inS (sl.getD i (0, [], none, 0))
def SvO (w : World) (base : Nat) (a : Option Addr) (sl : SR) : Prop :=
  Ow 2 w base a sl.length (svG sl) ∧ ∀ t ∈ sl, t.2.1.length ≤ t.2.2.2 ∧ t.2.1.length ≤ 1048576 ∧ Ow 2 w base t.2.2.1 t.2.1.length (tkG t.2.1)
theorem SvR.ow {w : World} {base n cap : Nat} {a : Option Addr} {sl : SR} (h : SvR w base (.slice a n cap) sl) (hl : sl.length = n) (hn : n ≤ 1048576) (hm : ∀ t ∈ sl, t.2.1.length ≤ 1048576) : SvO w base a sl := by
  refine ⟨hl ▸ (ow_of_row (hl ▸ h.1) (by omega) (fun i hi j hj => ?_)), fun t m => ?_⟩
  · obtain ⟨h1, h2⟩ := srC_at sl i (by omega)
    match j, hj with
    | 0, _ => rw [Nat.add_zero, h1]; rfl
    | 1, _ => rw [h2]; rfl
  · have hr := h.2 t m
    unfold inS at hr
    exact ⟨row_cap hr, hm t m, ow_of_row hr (by have := hm t m; omega) (fun i hi j hj => flat_at _ i hi j hj)⟩
theorem SvO.below {w w' : World} {base : Nat} {a : Option Addr} {sl : SR} (h : SvO w base a sl) (hb : Below w.heap.size w w') : SvO w' base a sl :=
  ⟨h.1.below hb, fun t m => ⟨(h.2 t m).1, (h.2 t m).2.1, (h.2 t m).2.2.below hb⟩⟩
theorem SvO.mono {w : World} {base B' : Nat} {a : Option Addr} {sl : SR} (h : SvO w base a sl) (hB : B' ≤ base) : SvO w B' a sl :=
  ⟨h.1.mono hB, fun t m => ⟨(h.2 t m).1, (h.2 t m).2.1, (h.2 t m).2.2.mono hB⟩⟩
theorem SvO.ns {w : World} {base : Nat} {a : Option Addr} {sl : SR} (h : SvO w base a sl) : Ns 2 tkG w w.heap.size a sl.length (srvs sl) := by
  refine ⟨srvs_len sl, fun i => (sl.getD i (0, [], none, 0)).2.2, ?_, fun i hi => ?_⟩
  · refine (h.1.congr (fun i hi j hj => ?_)).sl
    match j, hj with
    | 0, _ => simp only [nsG, srvs_at, svG]
    | 1, _ => simp only [nsG, srvs_at, svG, inS]
  · rw [srvs_at]
    have m : sl.getD i (0, [], none, 0) ∈ sl := getD_mem hi
    exact ⟨(h.2 _ m).1, (h.2 _ m).2.2.sl⟩
end Go.Proofs.Ytjlaikmilcgmhaa
