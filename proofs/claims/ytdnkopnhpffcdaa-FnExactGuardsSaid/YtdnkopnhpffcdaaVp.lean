/- Boxes laid anew, compared, measured, marked. -/
import Derived.Test.YtdnkopnhpffcdaaVo
namespace Go.Proofs.Ytdnkopnhpffcdaa
open Go.RowKit
set_option linter.unusedVariables false

/-- Boxes in blocks of one's own, from B to H. -/
def Bd (w : World) (B H : Nat) (a : Option Addr) (bl : BL) : Prop :=
  (∃ (b : Nat) (cs : Array Value), a = some ⟨b, 0, none⟩ ∧ B ≤ b ∧ b < H ∧ Blk w b cs 33 ∧ cs.size = bl.length * 2 ∧ ∀ i, i < bl.length → cs[i * 2]? = some (.int .i64 (bl.getD i (0, [], none, 0)).1) ∧ cs[i * 2 + 1]? = some (inV (bl.getD i (0, [], none, 0)))) ∧
  ∀ t ∈ bl, t.2.2.2 = t.2.1.length ∧ OwT 3 w B H t.2.2.1 t.2.1
theorem Bd.below {w w' : World} {B H : Nat} {a : Option Addr} {bl : BL} (h : Bd w B H a bl) (hb : Below w.heap.size w w') : Bd w' B H a bl := by
  obtain ⟨⟨b, cs, e, h1, h2, hk, hs, hc⟩, hi⟩ := h
  exact ⟨⟨b, cs, e, h1, h2, hk.below hb, hs, hc⟩, fun t m => ⟨(hi t m).1, (hi t m).2.below hb⟩⟩
theorem Bd.ns {w : World} {B H : Nat} {a : Option Addr} {bl : BL} (h : Bd w B H a bl) (hn : bl.length ≤ 1048576) (hm : ∀ t ∈ bl, t.2.1.length ≤ 1048576) : Ns 1 inG w w.heap.size a bl.length (boxesOf bl) := by
  obtain ⟨⟨b, cs, e, h1, h2, hk, hs, hc⟩, hi⟩ := h
  refine ⟨by simp [boxesOf], fun i => (bl.getD i (0, [], none, 0)).2.2, ⟨by omega, .inr ⟨b, 0, e, hk.lt, fun i hi' j hj => ?_⟩⟩, fun i hi' => ?_⟩
  · rw [Nat.zero_add]
    obtain ⟨c1, c2⟩ := hc i hi'
    match j, hj with
    | 0, _ => rw [Nat.add_zero, hk.cell _ c1]; simp only [nsG, boxesOf_at]
    | 1, _ => rw [hk.cell _ c2]; simp only [nsG, boxesOf_at, inV]
  · rw [boxesOf_at]
    have m : bl.getD i (0, [], none, 0) ∈ bl := getD_mem hi'
    exact ⟨by rw [(hi _ m).1]; exact Nat.le_refl _, (hi _ m).2.sl (hm _ m)⟩
def tot (bs : BX) : Nat := bs.length + (bs.map fun b => b.2.length).sum
theorem tot_snoc (bs : BX) (b : Int × List Int) : tot (bs ++ [b]) = tot bs + 1 + b.2.length := by simp [tot]; omega
theorem le_sum {l : List Nat} {x : Nat} (h : x ∈ l) : x ≤ l.sum := by
  induction l with
  | nil => cases h
  | cons a l ih =>
    rcases List.mem_cons.1 h with rfl | h
    · simp
    · have := ih h; simp; omega
theorem tot_len {bs : BX} {k : Nat} (hk : k < bs.length) : bs.length ≤ tot bs ∧ (bs.getD k (0, [])).2.length ≤ tot bs := by
  refine ⟨by unfold tot; omega, ?_⟩
  have : (bs.getD k (0, [])).2.length ∈ bs.map fun b => b.2.length := List.mem_map.2 ⟨_, getD_mem hk, rfl⟩
  have := le_sum this
  unfold tot; omega

theorem toB_c (key : Int) (a : Option Addr) (n cap : Nat) (l : List Int) (w : World) (hl : l.length = n) (hn : n ≤ 1048576) (S : Sl 1 w w.heap.size a n (inG l)) :
    Calls Try.prog 49 #[.agg #[.int .i64 key, .slice a n cap]] w fun e w' => ∃ a', e = .returned (.agg #[.int .i64 key, .slice a' n n]) ∧ Below w.heap.size w w' ∧ OwT 3 w' w.heap.size w'.heap.size a' l := by
  have hb0 := bpush (bpush (bpush (Below.refl w.heap.size w) (Obj.cells #[.int .i64 key, .slice a n cap] 62)) (Obj.cells #[.int .i64 0, .slice none 0 0] 33)) (Obj.cells #[.int .i64 key, .slice none 0 0] 33)
  have S1 := Lib.hid ((S.below hb0).mono hb0.size)
  clear S
  go_enter Try.func49, Try.ntmps49
  go_wp2_with fail
  refine (toI_c _ _ _ l _ hl hn S1.out).mono ?_
  rintro e w1 ⟨a', rfl, hb1, hp⟩
  have B0 := (((Blk.new w #[.int .i64 key, .slice a n cap] 62).alloc (Obj.cells #[.int .i64 0, .slice none 0 0] 33)).alloc (Obj.cells #[.int .i64 key, .slice none 0 0] 33)).below hb1
  have B1 := ((Blk.new (w.alloc (Obj.cells #[.int .i64 key, .slice a n cap] 62)) #[.int .i64 0, .slice none 0 0] 33).alloc (Obj.cells #[.int .i64 key, .slice none 0 0] 33)).below hb1
  have B2 := (Blk.new ((w.alloc (Obj.cells #[.int .i64 key, .slice a n cap] 62)).alloc (Obj.cells #[.int .i64 0, .slice none 0 0] 33)) #[.int .i64 key, .slice none 0 0] 33).below hb1
  simp only [World.size_alloc] at B0 B1 B2 hp
  have hbw := bstep hb0 hb1
  have a1 := B0.cell 1 rfl
  have b0 := B1.cell 0 rfl
  have b1 := B1.cell 1 rfl
  have c0 := B2.cell 0 rfl
  have c1 := B2.cell 1 rfl
  have f0 := B1.free 0
  have f1 := B1.free 1
  have g0 := B2.free 0
  have g1 := B2.free 1
  go_wp2_with fail
  refine bodyPost_ret (v := .agg #[.int .i64 key, .slice a' n n]) ?_ rfl ⟨a', rfl, ?_, ?_⟩
  · simp only [results, Try.results49]
    go_simp
  · repeat (first | with_reducible exact hbw | with_reducible refine Below.setCell ?_ (by simp <;> omega) _)
  · obtain ⟨b, cs, e, h1, h2, hk, hs, hc⟩ := hp
    refine ⟨b, cs, e, by omega, by simpa [World.setCell] using h2, ?_, hs, hc⟩
    repeat (first | with_reducible exact hk | with_reducible refine Blk.other ?_ (by omega) _ _)

set_option maxHeartbeats 2000000 in
theorem toBS_c (a : Option Addr) (n cap : Nat) (bs : BX) (w : World) (ht : tot bs ≤ 1048576) (HB : Ns 1 inG w w.heap.size a n bs) :
    Calls Try.prog 22 #[.slice a n cap] w fun e w' => ∃ (a' : Option Addr) (bl : BL), e = .returned (.slice a' n n) ∧ Below w.heap.size w w' ∧ boxesOf bl = bs ∧ Bd w' w.heap.size w'.heap.size a' bl := by
  obtain ⟨j0, hj0, gz0, gs0, gy0⟩ := info_parts infoBx
  have hnl := HB.length
  have HN := Lib.hid HB
  have hnt : bs.length ≤ tot bs := by unfold tot; omega
  clear HB
  go_enter Try.func22, Try.ntmps22
  go_wp2_with (first | (at_make; refine wpList_make_full w rfl _ _ _ rfl w.heap.size _ j0 _ 2 Try.underlying23 hj0 gz0 gs0 _ _ _ _ n rfl rfl rfl rfl (by rw [gy0]; omega) (by unfold maxLen; omega) (Nat.le_refl _) ?_; intro w1 hown hgrow) | fail)
  obtain ⟨cur, B1, hcur⟩ := owns_blk hown
  have hb1 := grown_below hgrow
  clear hown hgrow hj0 gz0 gs0 gy0
  go_loopw [4] (fun i wr => ∃ (k : Nat) (bl : BL), k ≤ n ∧ i = .int .i64 k ∧ Below w.heap.size w wr ∧ boxesOf bl = bs.take k ∧ (∃ cs : Array Value, Blk wr w.heap.size cs 33 ∧ cs.size = n * 2 ∧ ∀ i, i < k → cs[i * 2]? = some (.int .i64 (bl.getD i (0, [], none, 0)).1) ∧ cs[i * 2 + 1]? = some (inV (bl.getD i (0, [], none, 0)))) ∧ ∀ t ∈ bl, t.2.2.2 = t.2.1.length ∧ OwT 3 wr w.heap.size wr.heap.size t.2.2.1 t.2.1) (fun i _ => n - (intOf i).toNat)
  case atStart => exact ⟨0, [], by omega, rfl, hb1, rfl, ⟨cur, B1, hcur, fun i hi => by omega⟩, fun t m => by cases m⟩
  case round =>
    clear hb1 B1
    obtain ⟨k, bl, hk, rfl, hb, hbl, ⟨cs, Bk, hcs, hall⟩, hin⟩ := hrel
    by_cases hlt : k < n
    · have hki : (k : Int) < (n : Int) := by omega
      obtain ⟨b, off, a', c', rfl, hB, x0, x1, hc', hsl⟩ := (HN.out.below hb).at hlt
      have hbl' : bl.length = k := by have : (boxesOf bl).length = bl.length := bx_len bl; rw [← this, hbl, List.length_take]; omega
      have HBL := Lib.hid hbl
      have htk := (tot_len (bs := bs) (k := k) (by omega)).2
      have HTK := Lib.hid (take_snoc (l := bs) (d := (0, [])) (k := k) (by omega))
      obtain ⟨bx, hbx⟩ : ∃ p, bs.getD k (0, []) = p := ⟨_, rfl⟩
      rw [hbx] at x0 x1 hc' hsl htk HTK
      have HA := Lib.hid hall
      have HIN := Lib.hid hin
      have HSL := Lib.hid (hsl.mono hb.size)
      have q := Bk.lt
      have qb := World.block_lt_of_cell? _ _ x0
      clear hbx hbl hall hin hsl
      go_wp2_with fail
      refine (toB_c bx.1 _ _ _ bx.2 _ rfl (by omega) HSL.out).mono ?_
      rintro e w2 ⟨a2, rfl, hb2, ho2⟩
      have B2 := Bk.below hb2
      obtain ⟨v0, e0⟩ := arr_some (show k * 2 < cs.size by omega)
      obtain ⟨v1, e1⟩ := arr_some (show k * 2 + 1 < cs.size by omega)
      have c0 := B2.cell _ e0
      have c1 := B2.cell _ e1
      have f0 := B2.free (k * 2)
      have f1 := B2.free (k * 2 + 1)
      have HO := Lib.hid ho2
      have hbb := bstep hb hb2
      have z2 := hb2.size
      clear Bk ho2 e0 e1 x0 x1
      go_wp2_with fail
      go_roundw
      case rel =>
        have W3 : ∀ X : World, X = (w2.setCell ⟨w.heap.size, k * 2, none⟩ (.int .i64 bx.1)).setCell ⟨w.heap.size, k * 2 + 1, none⟩ (.slice a2 bx.2.length bx.2.length) → ∀ t : Option Addr × List Int, OwT 3 w2 w.heap.size w2.heap.size t.1 t.2 → OwT 3 X w.heap.size X.heap.size t.1 t.2 := by
          rintro X rfl t ⟨b', cs', e', h1', h2', hk', hs', hc''⟩
          have hne : b' ≠ w.heap.size := by
            rintro rfl
            unfold Blk at hk' B2
            rw [hk'] at B2
            simp only [Option.some.injEq, Obj.cells.injEq] at B2
            exact absurd B2.2.1 (by decide)
          exact ⟨b', cs', e', h1', by simpa [World.setCell] using h2', (hk'.other hne _ _).other hne _ _, hs', hc''⟩
        refine ⟨k + 1, bl ++ [(bx.1, bx.2, a2, bx.2.length)], by omega, by go_num, ?_, by rw [boxesOf_snoc, HBL.out, HTK.out], ⟨_, (B2.set (k * 2) _).set (k * 2 + 1) _, by simpa using hcs, ?_⟩, ?_⟩
        · repeat (first | with_reducible exact hbb | with_reducible refine Below.setCell ?_ (by simp) _)
        · intro i hi
          by_cases e : i = k
          · subst e
            have eg : (bl ++ [(bx.1, bx.2, a2, bx.2.length)]).getD i (0, [], none, 0) = (bx.1, bx.2, a2, bx.2.length) := by
              rw [List.getD_eq_getElem?_getD, List.getElem?_append_right (by omega)]; simp [hbl']
            rw [eg]
            constructor
            · rw [Array.getElem?_setIfInBounds_ne (by omega), Array.getElem?_setIfInBounds_self_of_lt (by omega)]
            · rw [Array.getElem?_setIfInBounds_self_of_lt (by simp; omega)]; rfl
          · have eg : (bl ++ [(bx.1, bx.2, a2, bx.2.length)]).getD i (0, [], none, 0) = bl.getD i (0, [], none, 0) := by
              rw [List.getD_eq_getElem?_getD, List.getD_eq_getElem?_getD, List.getElem?_append_left (by omega)]
            rw [eg, Array.getElem?_setIfInBounds_ne (by omega), Array.getElem?_setIfInBounds_ne (by omega), Array.getElem?_setIfInBounds_ne (by omega), Array.getElem?_setIfInBounds_ne (by omega)]
            exact HA.out i (by omega)
        · intro t m
          rcases List.mem_append.1 m with m | m
          · exact ⟨(HIN.out t m).1, W3 _ rfl (t.2.2.1, t.2.1) (((HIN.out t m).2.below hb2).mono (Nat.le_refl _) z2)⟩
          · rw [List.mem_singleton.1 m]; exact ⟨rfl, W3 _ rfl (a2, bx.2) (HO.out.mono (by have := hb.size; omega) (Nat.le_refl _))⟩
      case measure => simp [intOf]; omega
    · obtain rfl : k = n := by omega
      have hbl' : bl.length = k := by have : (boxesOf bl).length = bl.length := bx_len bl; rw [← this, hbl, List.length_take]; omega
      have q := Bk.lt
      rw [List.take_of_length_le (by omega)] at hbl
      have HBL := Lib.hid hbl
      have HR := Lib.hid (show Bd wr w.heap.size wr.heap.size (some ⟨w.heap.size, 0, none⟩) bl from ⟨⟨_, cs, rfl, Nat.le_refl _, q, Bk, by omega, by rw [hbl']; exact hall⟩, hin⟩)
      clear hbl hall hin Bk
      go_wp2_with fail
      go_ret
      exact ⟨_, bl, rfl, hb, HBL.out, HR.out⟩
end Go.Proofs.Ytdnkopnhpffcdaa
