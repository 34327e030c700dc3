/- Steps of the laws on derivations. -/
import Derived.Test.YtdnkopnhpffcdaaVl
namespace Go.Proofs.Ytdnkopnhpffcdaa
open Go.RowKit
set_option linter.unusedVariables false
theorem sl_step {k n : Nat} {w w' : World} {a : Option Addr} {g : Nat → Nat → Value} (h : Sl k w w.heap.size a n g) (hb : Below w.heap.size w w') : Sl k w' w'.heap.size a n g :=
  (h.below hb).mono hb.size
theorem quiet_lefts {P : Program} {f : FuncId} {args : Array Value} {w : World} {n : Nat} {v : Value} (h : Calls P f args (w.drewN n) fun e w' => e = .returned v ∧ w.drewN n = w') : Calls P f args (w.drewN n) fun e w'' => e = .returned v ∧ ∃ m, w'' = w.drewN m :=
  h.mono fun _ _ ⟨he, hm⟩ => ⟨he, n, hm.symm⟩
theorem lies_ns0 {w w' : World} {bs : BX} {a ak : Option Addr} {c ck : Nat} {L : List Int} (h : Lies w bs a c L ak ck) (D : Below w.heap.size w w') : Ns 1 inG w' w.heap.size a bs.length bs := h.2.2.2.2.1.below D
theorem has_q (a : Option Addr) (n cap : Nat) (l : List Int) (x : Int) (w : World) (hl : l.length = n) (S : Sl 1 w w.heap.size a n (inG l)) (m : Nat) :
    Calls Try.prog 19 #[.slice a n cap, .int .i64 x] (w.drewN m) fun e w'' => e = .returned (.bool (decide (x ∈ l))) ∧ ∃ k, w'' = w.drewN k :=
  quiet_lefts (hasI_c a n cap l x (w.drewN m) hl (S.below (bdrewN (Below.refl w.heap.size w) m)))
theorem lies_ns {w w' : World} {bs : BX} {a ak : Option Addr} {c ck : Nat} {L : List Int} (h : Lies w bs a c L ak ck) (D : Below w.heap.size w w') : Ns 1 inG w' w'.heap.size a bs.length bs :=
  (h.2.2.2.2.1.below D).mono D.size
theorem lies_kn {w w' : World} {bs : BX} {a ak : Option Addr} {c ck : Nat} {L : List Int} (h : Lies w bs a c L ak ck) (D : Below w.heap.size w w') : Sl 1 w' w'.heap.size ak L.length (inG L) :=
  sl_step h.2.2.2.2.2 D
theorem goti_sl {w' : World} {base c : Nat} {a : Option Addr} {L : List Int} (h : w'.ownsRow base 3 1 (.slice a L.length c) L.length (ints L)) (hn : L.length ≤ 1048576) : Sl 1 w' w'.heap.size a L.length (inG L) := (isl_row h hn).sl
theorem guardL_len (bs : BX) (kn : List Int) (x : Int) : (guardL bs kn x).length ≤ 20 := by
  unfold guardL; split
  · have := List.length_filter_le (fun k => !fin bs kn k x) (atomsTo 20)
    rw [atoms_len] at this; exact this
  · simp
theorem openI_len (bs : BX) (kn : List Int) : (openI bs kn).length ≤ bs.length := lstB_len _ _
/-- Boxes taken over from others: what they hold lies below H. -/
theorem some_ns {w : World} {base H n cap : Nat} {a : Option Addr} {bl : BL} (h : w.ownsRow base 33 2 (.slice a n cap) bl.length (bxC bl)) (hl : bl.length = n) (hn : n ≤ 1048576) (hH : H ≤ w.heap.size)
    (hm : ∀ t ∈ bl, t.2.1.length ≤ t.2.2.2 ∧ Sl 1 w H t.2.2.1 t.2.1.length (inG t.2.1)) : Ns 1 inG w w.heap.size a n (boxesOf bl) := by
  refine ⟨by simp [boxesOf, hl], fun i => (bl.getD i (0, [], none, 0)).2.2, ?_, fun i hi => ?_⟩
  · refine (ow_of_row (hl ▸ h) (by omega) (fun i hi j hj => ?_)).sl
    obtain ⟨h1, h2⟩ := bxC_at bl i (by omega)
    match j, hj with
    | 0, _ => rw [Nat.add_zero, h1]; simp only [nsG, boxesOf_at]
    | 1, _ => rw [h2]; simp only [nsG, boxesOf_at]
  · rw [boxesOf_at]
    have m : bl.getD i (0, [], none, 0) ∈ bl := getD_mem (by omega)
    exact ⟨(hm _ m).1, (hm _ m).2.mono hH⟩
theorem some_emp {w : World} {base b : Nat} (h : Blk w b #[] 33) (hb : base ≤ b) : w.ownsRow base 33 2 (.slice (some ⟨b, 0, none⟩) (0 : Nat) 0) ([] : BL).length (bxC []) :=
  ⟨rfl, .inr ⟨b, 0, #[], rfl, hb, h, Nat.le_refl _, by unfold maxLen; omega, rfl, rfl⟩⟩
/-- Taking over the boxes that a test picks out. -/
def pickL (q : Int → Bool) (bs : BX) : BX := bs.filter fun b => q b.1
theorem pickL_yes {q : Int → Bool} {bs : BX} {k : Nat} (hk : k < bs.length) (h : q (bs.getD k (0, [])).1 = true) : pickL q (bs.take (k + 1)) = pickL q (bs.take k) ++ [bs.getD k (0, [])] := by
  unfold pickL; rw [take_snoc (d := (0, [])) hk, List.filter_append]
  simp only [List.filter_cons, h, if_true, List.filter_nil]
theorem pickL_no {q : Int → Bool} {bs : BX} {k : Nat} (hk : k < bs.length) (h : q (bs.getD k (0, [])).1 = false) : pickL q (bs.take (k + 1)) = pickL q (bs.take k) := by
  unfold pickL; rw [take_snoc (d := (0, [])) hk, List.filter_append]
  simp only [List.filter_cons, h, Bool.false_eq_true, if_false, List.filter_nil, List.append_nil]
theorem pickL_len (q : Int → Bool) (bs : BX) (k : Nat) : (pickL q (bs.take k)).length ≤ k :=
  Nat.le_trans (List.length_filter_le _ _) (List.length_take_le _ _)
theorem boxesOf_snoc (bl : BL) (t : Int × List Int × Option Addr × Nat) : boxesOf (bl ++ [t]) = boxesOf bl ++ [(t.1, t.2.1)] := by simp [boxesOf]
/-- Valid out of valid ones. -/
theorem sec_pick {q : Int → Bool} {bs : BX} {kn : List Int} (h : secOk bs kn = true) : secOk (pickL q bs) kn = true := by
  unfold secOk boxesOk at h ⊢
  simp only [Bool.and_eq_true, List.all_eq_true, decide_eq_true_eq] at h ⊢
  refine ⟨⟨Nat.le_trans (List.length_filter_le _ _) h.1.1, fun b m => h.1.2 b (List.mem_filter.1 m).1⟩, h.2⟩
theorem derL_opened (bs : BX) (kn : List Int) (h : boxesOk bs = true) : derL (pickL (fun k => decide (k ∈ derL bs kn)) bs) kn = derL bs kn := by
  cases hv : secOk bs kn
  · have hk : knownOk kn = false := by unfold secOk at hv; rw [h] at hv; simpa using hv
    have h2 : secOk (pickL (fun k => decide (k ∈ derL bs kn)) bs) kn = false := by unfold secOk; rw [hk, Bool.and_false]
    rw [derL_none hv, derL_none (by rw [derL_none hv] at h2; exact h2)]
  · obtain ⟨q, hq⟩ : ∃ q : Int → Bool, q = fun k => decide (k ∈ derL bs kn) := ⟨_, rfl⟩
    rw [← hq]
    have h2 : secOk (pickL q bs) kn = true := sec_pick hv
    rw [derL_yes hv, derL_yes h2]
    have : fin (pickL q bs) kn 0 = fin bs kn 0 := fin_congr (der_some (fun b m => (List.mem_filter.1 m).1) (fun b m d => List.mem_filter.2 ⟨m, by rw [hq]; exact decide_eq_true (derL_mem.2 ⟨hv, d⟩)⟩))
    rw [this]
theorem openI_mem {bs : BX} {kn : List Int} {k : Nat} (hk : k < bs.length) : decide ((k : Int) ∈ openI bs kn) = decide ((bs.getD k (0, [])).1 ∈ derL bs kn) := by
  rw [Bool.eq_iff_iff, decide_eq_true_eq]
  unfold openI lstB
  simp only [List.mem_map, List.mem_filter, List.mem_range]
  constructor
  · rintro ⟨i, ⟨_, h⟩, e⟩
    obtain rfl : i = k := by omega
    exact h
  · intro h
    exact ⟨k, ⟨hk, h⟩, rfl⟩
/-- A guard, told by leaving its boxes out. -/
theorem guard_pick {bs : BX} {kn : List Int} {x key : Int} (hb : boxesOk bs = true) (hk : 1 ≤ key ∧ key ≤ 20) : decide (key ∈ guardL bs kn x) = (drvOk bs kn x && !drvOk (pickL (fun k => !decide (k = key)) bs) kn x) := by
  cases hd : drvOk bs kn x
  · unfold guardL; rw [hd]; simp
  · have hv : secOk bs kn = true := by unfold drvOk at hd; simp only [Bool.and_eq_true] at hd; exact hd.1
    unfold guardL
    rw [if_pos hd]
    have h2 : drvOk (pickL (fun k => !decide (k = key)) bs) kn x = fin bs kn key x := by
      unfold drvOk
      rw [sec_pick hv, Bool.true_and, Bool.eq_iff_iff, fin_der, fin_der]
      have hz : ∀ b ∈ bs, b.1 ≠ 0 := fun b m => by
        unfold boxesOk at hb
        simp only [Bool.and_eq_true, List.all_eq_true] at hb
        have := hb.2 b m
        unfold boxOk at this
        simp only [Bool.and_eq_true] at this
        have := (atomOk_iff.1 this.1.1).1
        omega
      exact der_without hz x
    rw [h2, Bool.true_and, Bool.eq_iff_iff, decide_eq_true_eq, List.mem_filter, atoms_mem]
    exact ⟨fun h => h.2, fun h => ⟨hk, h⟩⟩
theorem guard_known {bs : BX} {kn : List Int} {x g : Int} (h : g ∈ guardL bs kn x) : drvOk bs kn g = true ∧ x ∉ kn := by
  unfold guardL at h
  split at h
  · rename_i hd
    obtain ⟨_, hn⟩ := List.mem_filter.1 h
    unfold drvOk at hd ⊢
    simp only [Bool.and_eq_true, fin_der] at hd ⊢
    have hn : ¬ Der bs kn g x := by
      intro d
      rw [(fin_der bs kn g x).2 d] at hn
      cases hn
    refine ⟨⟨hd.1, der_guard hd.2 hn⟩, fun m => hn (.known m)⟩
  · cases h
theorem derL_more {bs : BX} {kn : List Int} {y x : Int} (hk : kn.length < 20) (hy : 1 ≤ y ∧ y ≤ 20) (h : x ∈ derL bs kn) : x ∈ derL bs (kn ++ [y]) := by
  rw [derL_mem] at h ⊢
  refine ⟨?_, h.2.more (fun _ m => m) (fun z m => by simp [m])⟩
  have := h.1
  unfold secOk knownOk at this ⊢
  simp only [Bool.and_eq_true, List.all_eq_true, decide_eq_true_eq] at this ⊢
  refine ⟨this.1, by simp; omega, fun z m => ?_⟩
  rcases List.mem_append.1 m with m | m
  · exact this.2.2 z m
  · rw [List.mem_singleton.1 m]; exact atomOk_iff.2 hy
theorem derL_union {bs : BX} {kn km : List Int} {x : Int} (hl : kn.length + km.length ≤ 20) (h1 : (derL bs kn).length ≠ 0) (h2 : (derL bs km).length ≠ 0) (h : x ∈ derL bs kn ++ derL bs km) : x ∈ derL bs (kn ++ km) := by
  have v1 : secOk bs kn = true := by
    cases e : secOk bs kn
    · rw [derL_none e] at h1; simp at h1
    · rfl
  have v2 : secOk bs km = true := by
    cases e : secOk bs km
    · rw [derL_none e] at h2; simp at h2
    · rfl
  rw [derL_mem]
  constructor
  · unfold secOk knownOk at v1 v2 ⊢
    simp only [Bool.and_eq_true, List.all_eq_true, decide_eq_true_eq] at v1 v2 ⊢
    refine ⟨v1.1, by simp; omega, fun z m => ?_⟩
    rcases List.mem_append.1 m with m | m
    · exact v1.2.2 z m
    · exact v2.2.2 z m
  · rcases List.mem_append.1 h with h | h
    · exact (derL_mem.1 h).2.more (fun _ m => m) (fun z m => by simp [m])
    · exact (derL_mem.1 h).2.more (fun _ m => m) (fun z m => by simp [m])
/-- Every derivable atom has a reason. -/
theorem derL_reason {bs : BX} {kn : List Int} {x : Int} (h : x ∈ derL bs kn) : x ∈ kn ∨ ∃ k, k < bs.length ∧ (bs.getD k (0, [])).1 ∈ derL bs kn ∧ x ∈ (bs.getD k (0, [])).2 := by
  obtain ⟨hv, d⟩ := derL_mem.1 h
  rcases d.step with m | ⟨b, hb, _, hd, ha⟩
  · exact .inl m
  · obtain ⟨k, hk, rfl⟩ := List.mem_iff_getElem.1 hb
    have e : bs.getD k (0, []) = bs[k] := by rw [List.getD_eq_getElem?_getD, List.getElem?_eq_getElem hk]; rfl
    exact .inr ⟨k, hk, by rw [e]; exact derL_mem.2 ⟨hv, hd⟩, by rw [e]; exact ha⟩
/-- The atoms ascend. -/
theorem atoms_sorted (k : Nat) : (atomsTo k).Pairwise (· < ·) := by
  induction k with
  | zero => exact List.Pairwise.nil
  | succ k ih =>
    rw [atoms_succ, List.pairwise_append]
    refine ⟨ih, by simp, fun a ha b hb => ?_⟩
    rw [List.mem_singleton.1 hb]
    have := (atoms_mem.1 ha).2
    omega
theorem derL_sorted (bs : BX) (kn : List Int) {j : Nat} (hj : j + 1 < (derL bs kn).length) : (derL bs kn).getD j 0 < (derL bs kn).getD (j + 1) 0 := by
  have hp : (derL bs kn).Pairwise (· < ·) := by
    unfold derL; split
    · exact (atoms_sorted 20).sublist List.filter_sublist
    · exact List.Pairwise.nil
  have := (List.pairwise_iff_getElem.1 hp) j (j + 1) (by omega) hj (by omega)
  rw [List.getD_eq_getElem?_getD, List.getD_eq_getElem?_getD, List.getElem?_eq_getElem hj, List.getElem?_eq_getElem (show j < (derL bs kn).length by omega)]
  exact this
end Go.Proofs.Ytdnkopnhpffcdaa
