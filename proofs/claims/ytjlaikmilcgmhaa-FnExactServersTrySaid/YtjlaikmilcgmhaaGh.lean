/- Time goes on: both programs. -/
import Derived.Test.YtjlaikmilcgmhaaGc
import Derived.Test.YtjlaikmilcgmhaaGd
import Derived.Test.YtjlaikmilcgmhaaGe
import Derived.OwnWalk
import Derived.Deep.RegionHeld3
import Derived.Deep.AppendLies
namespace Go.Proofs.Ytjlaikmilcgmhaa
open Go.RowKit
set_option linter.unusedVariables false

/-- The cells of tickets. -/
def flat (l : TL) : List Value := l.flatMap fun t => [.int .i64 t.1, .int .i64 t.2]
theorem flat_snoc (l : TL) (p : Int × Int) : flat (l ++ [p]) = flat l ++ [.int .i64 p.1, .int .i64 p.2] := by simp [flat]
theorem flat_length (l : TL) : (flat l).length = l.length * 2 := by
  induction l with
  | nil => rfl
  | cons a l ih =>
    have : flat (a :: l) = .int .i64 a.1 :: .int .i64 a.2 :: flat l := rfl
    rw [this]; simp [ih]; omega
theorem flat_at (l : TL) : ∀ i, i < l.length → ∀ j, j < 2 → (flat l)[i * 2 + j]? = some (tkG l i j) := by
  induction l with
  | nil => intro i hi; simp at hi
  | cons a l ih =>
    have e : flat (a :: l) = .int .i64 a.1 :: .int .i64 a.2 :: flat l := rfl
    intro i hi j hj
    rw [e]
    cases i with
    | zero =>
      match j, hj with
      | 0, _ => simp [tkG]
      | 1, _ => simp [tkG]
    | succ i =>
      rw [show (i + 1) * 2 + j = (i * 2 + j) + 1 + 1 by omega]
      have := ih i (by simpa using hi) j hj
      simp only [List.getElem?_cons_succ]
      rw [this]
      match j, hj with
      | 0, _ => simp [tkG]
      | 1, _ => simp [tkG]
theorem flat_one (l : TL) : ∀ v ∈ flat l, v.oneCell' = true := by
  intro v hv
  unfold flat at hv
  obtain ⟨t, _, ht⟩ := List.mem_flatMap.1 hv
  simp at ht
  rcases ht with rfl | rfl <;> rfl
theorem take_succ {l : TL} {k : Nat} {p : Int × Int} (hk : k < l.length) (hp : l.getD k (0, 0) = p) : l.take (k + 1) = l.take k ++ [p] := by
  rw [List.take_succ_eq_append_getElem hk]
  rw [List.getD_eq_getElem?_getD, List.getElem?_eq_getElem hk] at hp
  rw [← hp]; rfl
theorem tick_keep {c : Int} {l : TL} {k : Nat} {p : Int × Int} (hk : k < l.length) (hp : l.getD k (0, 0) = p) (h : c - 10 ≤ p.2) : tickL c (l.take (k + 1)) = tickL c (l.take k) ++ [p] := by
  rw [take_succ hk hp]; simp [tickL, h]
theorem tick_drop {c : Int} {l : TL} {k : Nat} {p : Int × Int} (hk : k < l.length) (hp : l.getD k (0, 0) = p) (h : ¬ c - 10 ≤ p.2) : tickL c (l.take (k + 1)) = tickL c (l.take k) := by
  rw [take_succ hk hp]; simp [tickL, h]
theorem tick_len (c : Int) (l : TL) (k : Nat) : (tickL c (l.take k)).length ≤ k :=
  Nat.le_trans (List.length_filter_le _ _) (List.length_take_le _ _)

theorem row_form {w : World} {base k n : Nat} {e : TypeId} {v : Value} {xs : List Value} (h : w.ownsRow base e k v n xs) : ∃ a cap, v = .slice a n cap := by
  obtain ⟨_, h | ⟨g, cap, cur, h, _⟩⟩ := h
  · obtain ⟨rfl, rfl⟩ := h; exact ⟨_, _, rfl⟩
  · exact ⟨_, _, h⟩
theorem row_set {w : World} {base k n b j : Nat} {e : TypeId} {v u : Value} {xs : List Value} (h : w.ownsRow base e k v n xs) (hb : b < base) : (w.setCell ⟨b, j, none⟩ u).ownsRow base e k v n xs := by
  obtain ⟨hl, h | ⟨g, cap, cur, h, hg, hc, h'⟩⟩ := h
  · exact ⟨hl, .inl h⟩
  · exact ⟨hl, .inr ⟨g, cap, cur, h, hg, (Below.heap_setCell w _ u g (by simp; omega)).trans hc, h'⟩⟩
theorem row_below {w w' : World} {base k n : Nat} {e : TypeId} {v : Value} {xs : List Value} (h : w.ownsRow base e k v n xs) (hb : Below w.heap.size w w') : w'.ownsRow base e k v n xs := by
  obtain ⟨hl, h | ⟨g, cap, cur, h, hg, hc, h'⟩⟩ := h
  · exact ⟨hl, .inl h⟩
  · exact ⟨hl, .inr ⟨g, cap, cur, h, hg, (hb.block g (Blk.lt hc)).trans hc, h'⟩⟩
theorem chg_grown {w w' : World} {base k n : Nat} {e : TypeId} {v : Value} {xs : List Value} (h : w.ownsRow base e k v n xs) (hg : w.grownBy w' v.ownBlock) : Chg base w.heap.size w w' := by
  refine ⟨hg.os, hg.tape, hg.output, hg.size, fun i hi hn => hg.block i hi ?_⟩
  intro e
  have := h.lt i e.symm
  omega

def tickN (now : Int) (l : TL) (c : Int) : Int := if tickOk now l c = true then c else 0
def tickS (now : Int) (l : TL) (c : Int) : TL := if tickOk now l c = true then tickL c l else []
/-- What a register's step hands back, and what became of the world. -/
def Stepped (w : World) (now : Int) (l : TL) (ok : Bool) (e : Ending) (w' : World) : Prop :=
  ∃ (a : Option Addr) (cap : Nat), e = .returned (.tuple #[.agg #[.int .i64 now, .slice a l.length cap], .bool ok]) ∧ Below w.heap.size w w' ∧ Ow 2 w' w.heap.size a l.length (tkG l)

set_option maxHeartbeats 2000000 in
theorem rtick_impl (now c : Int) (a : Option Addr) (n cap : Nat) (l : List (Int × Int)) (w : World) (hl : l.length = n) (S : Sl 2 w w.heap.size a n (tkG l)) :
    Calls Try.prog 22 #[.agg #[.int .i64 now, .slice a n cap], .int .i64 c] w (Stepped w (tickN now l c) (tickS now l c) (tickOk now l c)) := by
  have hn := S.len
  have hb0 := bpush (bpush (Below.refl w.heap.size w) (Obj.cells #[.int .i64 now, .slice a n cap] 42)) (Obj.cells #[.int .i64 0, .slice none 0 0] 42)
  have B0 := (Blk.new w #[.int .i64 now, .slice a n cap] 42).alloc (Obj.cells #[.int .i64 0, .slice none 0 0] 42)
  have R0 := Blk.new (w.alloc (Obj.cells #[.int .i64 now, .slice a n cap] 42)) #[.int .i64 0, .slice none 0 0] 42
  rw [World.size_alloc] at R0
  have HV := Lib.hid (rvalid_impl now a n cap l _ hl ((S.below hb0).mono hb0.size))
  have HS := Lib.hid S; clear S
  cases b1 : regOk now l
  · have E1 : tickN now l c = 0 := by unfold tickN tickOk; rw [b1]; rfl
    have E2 : tickS now l c = [] := by unfold tickS tickOk; rw [b1]; rfl
    have E3 : tickOk now l c = false := by unfold tickOk; rw [b1]; rfl
    rw [E1, E2, E3]
    clear E1 E2 E3
    go_enter Try.func22, Try.ntmps22
    go_wp2_with fail
    refine HV.out.mono ?_
    rintro e w1 ⟨rfl, hb1⟩
    rw [b1]
    have hB := bstep hb0 hb1
    have R1 := R0.below hb1
    have c0 := R1.cell 0 rfl
    have c1 := R1.cell 1 rfl
    have f0 := R1.free 0
    have f1 := R1.free 1
    clear HV b1 R0 B0
    go_wp2_with fail
    refine bodyPost_ret (v := .tuple #[.agg #[.int .i64 0, .slice none 0 0], .bool false]) ?_ rfl ⟨none, 0, rfl, ?_, Ow.none _ _ _ _ _⟩
    · simp only [results, Try.results22]
      go_simp
    · repeat (first | with_reducible exact hB | with_reducible refine Below.setCell ?_ (by simp <;> omega) _)
  cases b2 : inB c now 999
  · have E1 : tickN now l c = 0 := by unfold tickN tickOk; rw [b1, b2]; rfl
    have E2 : tickS now l c = [] := by unfold tickS tickOk; rw [b1, b2]; rfl
    have E3 : tickOk now l c = false := by unfold tickOk; rw [b1, b2]; rfl
    rw [E1, E2, E3]
    clear E1 E2 E3
    go_enter Try.func22, Try.ntmps22
    go_wp2_with fail
    refine HV.out.mono ?_
    rintro e w1 ⟨rfl, hb1⟩
    rw [b1]
    have hB := bstep hb0 hb1
    have R1 := R0.below hb1
    have c0 := R1.cell 0 rfl
    have c1 := R1.cell 1 rfl
    have f0 := R1.free 0
    have f1 := R1.free 1
    have d0 := (B0.below hb1).cell 0 rfl
    clear HV b1 R0 B0
    go_wp2_with (go_at_call 35; refine (within_c _ _ _ _).mono ?_; rintro e w' ⟨rfl, rfl⟩)
    refine bodyPost_ret (v := .tuple #[.agg #[.int .i64 0, .slice none 0 0], .bool false]) ?_ rfl ⟨none, 0, rfl, ?_, Ow.none _ _ _ _ _⟩
    · simp only [results, Try.results22]
      go_simp
    · repeat (first | with_reducible exact hB | with_reducible refine Below.setCell ?_ (by simp <;> omega) _)
  obtain ⟨h1, h2⟩ : now ≤ c ∧ c ≤ 999 := by simpa [inB] using b2
  obtain ⟨⟨h3, h4⟩, h5, _⟩ := regOk_t b1
  rw [hl] at h5
  have E3 : tickOk now l c = true := by unfold tickOk; rw [b1, b2]; rfl
  have E1 : tickN now l c = c := by unfold tickN; rw [E3]; rfl
  have E2 : tickS now l c = tickL c l := by unfold tickS; rw [E3]; rfl
  rw [E1, E2, E3]
  clear E1 E2 E3
  obtain ⟨i0, hi0, hz0, hs0, hy0⟩ := info_parts infoTk
  have HI := Lib.hid hi0; have HZ := Lib.hid hz0; have HZ1 := Lib.hid hs0; have HY := Lib.hid hy0
  clear hi0 hz0 hs0 hy0
  go_enter Try.func22, Try.ntmps22
  go_wp2_with fail
  refine HV.out.mono ?_
  rintro e w1 ⟨rfl, hb1⟩
  rw [b1]
  have hB := bpush (bstep hb0 hb1) (Obj.cells #[.int .i64 c, .slice none 0 0] 42)
  have R1 := (R0.below hb1).alloc (Obj.cells #[.int .i64 c, .slice none 0 0] 42)
  have O1 := Blk.new w1 #[.int .i64 c, .slice none 0 0] 42
  have d0 := (B0.below hb1).cell 0 rfl
  have d1 := (B0.below hb1).cell 1 rfl
  have q1 := (B0.below hb1).lt
  have q2 := (R0.below hb1).lt
  have HB1 := Lib.hid hb1
  clear HV b1 R0 B0 hb1
  go_wp2_with (go_at_call 35; refine (within_c _ _ _ _).mono ?_; rintro e w' ⟨rfl, rfl⟩)
  have own1 : (w1.alloc (Obj.cells #[.int .i64 c, .slice none 0 0] 42)).ownsRow (w1.heap.size + 1) 30 2 (.slice none 0 0) (tickL c (l.take 0)).length (flat (tickL c (l.take 0))) := World.ownsRow_nil _ _ _ _
  clear d0 d1
  go_loopw [25] (fun i wr => ∃ k : Nat, k ≤ n ∧ i = .int .i64 k ∧ Below w.heap.size w wr ∧ Blk wr (w.heap.size + 1) #[.int .i64 0, .slice none 0 0] 42 ∧ ∃ v, Blk wr w1.heap.size #[.int .i64 c, v] 42 ∧ wr.ownsRow (w1.heap.size + 1) 30 2 v (tickL c (l.take k)).length (flat (tickL c (l.take k)))) (fun i _ => n - (intOf i).toNat)
  case atStart => exact ⟨0, by omega, rfl, hB, R1, _, O1, own1⟩
  case round =>
    obtain ⟨k, hk, rfl, hbk, Rk, v, Ok, own⟩ := hrel
    clear hB R1 O1 own1
    by_cases hlt : k < n
    · have hki : (k : Int) < (n : Int) := by omega
      obtain ⟨b, off, rfl, hb, hc⟩ := (HS.out.below hbk).at hlt
      have x0 := hc k hlt 0 (by omega)
      have x1 := hc k hlt 1 (by omega)
      obtain ⟨p, hp⟩ : ∃ p, l.getD k (0, 0) = p := ⟨_, rfl⟩
      simp only [tkG, Nat.add_zero, hp] at x0 x1
      clear hc
      have q := Ok.lt
      have hb1 := bpush hbk (Obj.cells #[.int .i64 p.1, .int .i64 p.2] 30)
      have Rk1 := Rk.alloc (Obj.cells #[.int .i64 p.1, .int .i64 p.2] 30)
      have Ok1 := Ok.alloc (Obj.cells #[.int .i64 p.1, .int .i64 p.2] 30)
      have own1 := own.alloc (Obj.cells #[.int .i64 p.1, .int .i64 p.2] 30)
      have q' : b < wr.heap.size := by omega
      by_cases ht : c - 10 ≤ p.2
      · have ht' : ¬ p.2 < c - 10 := by omega
        have HK := Lib.hid (tick_keep (c := c) (by omega : k < l.length) hp ht)
        have hlen := tick_len c l k
        have c0 := Ok.cell 0 rfl
        have c1 := Ok.cell 1 rfl
        have hb2 := bpush hb1 (Obj.cells #[.int .i64 p.1, .int .i64 p.2] 30)
        have Rk2 := Rk1.alloc (Obj.cells #[.int .i64 p.1, .int .i64 p.2] 30)
        have Ok2 := Ok1.alloc (Obj.cells #[.int .i64 p.1, .int .i64 p.2] 30)
        have own2 := own1.alloc (Obj.cells #[.int .i64 p.1, .int .i64 p.2] 30)
        have N2 := Blk.new (wr.alloc (Obj.cells #[.int .i64 p.1, .int .i64 p.2] 30)) #[.int .i64 p.1, .int .i64 p.2] 30
        rw [World.size_alloc] at N2
        clear own own1 hp
        go_wp2_with (at_builtin; refine wpList_append_lies _ rfl _ _ _ rfl (w1.heap.size + 1) _ i0 _ 2 16 Try.underlying40 HI.out HZ.out HZ1.out HY.out rfl (by omega) _ _ _ rfl own2 ⟨wr.heap.size + 1, 0, none⟩ 1 1 [.int .i64 p.1, .int .i64 p.2] rfl rfl (World.news_of_block N2) (by simp [Value.oneCell']) (by omega) (by unfold maxLen; omega) (by omega) (by simp; omega) (wr.heap.size + 1 + 1) (by simp) ?_; intro g2 cap2 w2 own3 hgrow hat hg2; have hc2 := chg_grown own2 hgrow; have Ok3 := Ok2.chg hc2 (.inl (by omega)); have e1 := Ok3.cell 1 rfl; have g1 := Ok3.free 1)
        have hb3 := bchg hb2 hc2 (by omega)
        have Rk3 := Rk2.chg hc2 (.inl (by omega))
        clear c0 c1 own2 hgrow hc2 hb2 Rk2 Ok2 N2 e1 g1
        go_roundw
        case rel =>
          refine ⟨k + 1, by omega, by go_num, ?_, Rk3.other (by omega) _ _, _, Ok3.set 1 _, ?_⟩
          · with_reducible exact Below.setCell hb3 (by simp; omega) _
          · rw [HK.out, flat_snoc, List.length_append]
            exact row_set own3 (by omega)
        case measure => simp [intOf]; omega
      · have ht' : p.2 < c - 10 := by omega
        have HK := Lib.hid (tick_drop (c := c) (by omega : k < l.length) hp ht)
        clear own hp Rk Ok ht
        go_wp2_with fail
        go_roundw
        case rel => exact ⟨k + 1, by omega, by go_num, hb1, Rk1, v, Ok1, by rw [HK.out]; exact own1⟩
        case measure => simp [intOf]; omega
    · obtain rfl : k = n := by omega
      obtain ⟨av, capv, hv⟩ := row_form own
      subst hv
      have e0 := Ok.cell 0 rfl
      have e1 := Ok.cell 1 rfl
      have r0 := Rk.cell 0 rfl
      have r1 := Rk.cell 1 rfl
      have s0 := Rk.free 0
      have s1 := Rk.free 1
      have HO := Lib.hid (ow_of_row own (by have := tick_len c l k; omega) (by
        intro i hi j hj
        exact flat_at _ i hi j hj))
      rw [List.take_of_length_le (show l.length ≤ k by omega)] at HO e1
      clear own
      go_wp2_with fail
      refine bodyPost_ret (v := .tuple #[.agg #[.int .i64 c, .slice av (tickL c l).length capv], .bool true]) ?_ rfl ⟨av, capv, rfl, ?_, ?_⟩
      · simp only [results, Try.results22]
        go_simp
      · repeat (first | with_reducible exact hbk | with_reducible refine Below.setCell ?_ (by simp <;> omega) _)
      · refine Ow.mono (Ow.chg HO.out (lo := w.heap.size) (hi := w1.heap.size + 1) ?_ (Nat.le_refl _)) (by omega)
        repeat (first | with_reducible exact Chg.refl _ _ _ | with_reducible refine Chg.set ?_ (.inl (by simp <;> omega)) _ _)
end Go.Proofs.Ytjlaikmilcgmhaa
