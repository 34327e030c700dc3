/- Servers laid anew. -/
import Derived.Test.YtjlaikmilcgmhaaUa
namespace Go.Proofs.Ytjlaikmilcgmhaa
open Go.RowKit
set_option linter.unusedVariables false

theorem ow_apt {w : World} {k B b n : Nat} {a : Option Addr} {g : Nat → Nat → Value} (h : Ow k w B a n g) (hb : b < B) : Apt w.heap.size b a n := by
  rcases h.2 with h0 | ⟨b', cs, T, e, hB, hk, _⟩
  · exact .inl h0
  · exact .inr ⟨b', e, hk.lt, by omega⟩
theorem Apt.mono {H H' b n : Nat} {a : Option Addr} (h : Apt H b a n) (hH : H ≤ H') : Apt H' b a n := by
  rcases h with h | ⟨b', e, h1, h2⟩
  · exact .inl h
  · exact .inr ⟨b', e, by omega, h2⟩
theorem ow_oth {w : World} {k B H b j n : Nat} {a : Option Addr} {g : Nat → Nat → Value} {u : Value} (h : Ow k w B a n g) (hp : Apt H b a n) : Ow k (w.setCell ⟨b, j, none⟩ u) B a n g := by
  refine ⟨h.1, ?_⟩
  rcases h.2 with h0 | ⟨b2, cs2, T2, e2, hB2, hk2, hc2⟩
  · exact .inl h0
  · rcases hp with h0 | ⟨b', e', _, hne⟩
    · exact .inl h0
    · rw [e'] at e2
      simp only [Option.some.injEq, Addr.mk.injEq, and_true] at e2
      subst e2
      exact .inr ⟨b', cs2, T2, e', hB2, hk2.other hne _ _, hc2⟩
/-- A slice laid behind H is none of those that lie below. -/
theorem ow_new {w : World} {k B b H n m : Nat} {a a' : Option Addr} {g : Nat → Nat → Value} (h : Ow k w B a n g) (hp : Apt H b a' m) (hH : H ≤ B) (hm : 0 < m) (hn : 0 < n) : a' ≠ a := by
  rcases h.2 with h0 | ⟨b', cs, T, e, hB, hk, _⟩
  · omega
  · rcases hp with h0 | ⟨b2, e2, h2, _⟩
    · omega
    · rw [e, e2]
      simp only [ne_eq, Option.some.injEq, Addr.mk.injEq, and_true]
      omega
set_option maxHeartbeats 2000000 in
theorem toRS_c (a : Option Addr) (n cap : Nat) (bs : SV) (w : World) (ht : totS bs ≤ 1048576) (HB : Nr w w.heap.size a n bs) :
    Calls Try.prog 10 #[.slice a n cap] w fun e w' => ∃ (a' : Option Addr) (bl : SR), e = .returned (.slice a' n n) ∧ Below w.heap.size w w' ∧ srvs bl = bs ∧ (∀ t ∈ bl, t.2.1.length ≤ t.2.2.2) ∧ Rw w' w.heap.size w'.heap.size a' bl := by
  obtain ⟨j0, hj0, gz0, gs0, gy0⟩ := info_parts infoRg
  have hnl := HB.length
  have HN := Lib.hid HB
  have hnt : bs.length ≤ totS bs := by unfold totS; omega
  clear HB
  go_enter Try.func10, Try.ntmps10
  go_wp2_with (first | (at_make; refine wpList_make_full w rfl _ _ _ rfl w.heap.size _ j0 _ 2 Try.underlying26 hj0 gz0 gs0 _ _ _ _ n rfl rfl rfl rfl (by rw [gy0]; omega) (by unfold maxLen; omega) (Nat.le_refl _) ?_; intro w1 hown hgrow) | fail)
  obtain ⟨cur, B1, hcur⟩ := owns_blk hown
  have hb1 := grown_below hgrow
  clear hown hgrow hj0 gz0 gs0 gy0
  go_loopw [4] (fun i wr => ∃ (k : Nat) (bl : SR), k ≤ n ∧ i = .int .i64 k ∧ Below w.heap.size w wr ∧ srvs bl = bs.take k ∧ DJ bl ∧ (∃ cs : Array Value, Blk wr w.heap.size cs 42 ∧ cs.size = n * 2 ∧ ∀ i, i < k → cs[i * 2]? = some (.int .i64 (bl.getD i (0, [], none, 0)).1) ∧ cs[i * 2 + 1]? = some (inS (bl.getD i (0, [], none, 0)))) ∧ ∀ t ∈ bl, t.2.1.length ≤ t.2.2.2 ∧ t.2.1.length ≤ 1048576 ∧ Apt wr.heap.size w.heap.size t.2.2.1 t.2.1.length ∧ Ow 2 wr w.heap.size t.2.2.1 t.2.1.length (tkG t.2.1)) (fun i _ => n - (intOf i).toNat)
  case atStart => exact ⟨0, [], by omega, rfl, hb1, rfl, dj_nil, ⟨cur, B1, hcur, fun i hi => by omega⟩, fun t m => by cases m⟩
  case round =>
    clear hb1 B1
    obtain ⟨k, bl, hk, rfl, hb, hbl, hdj, ⟨cs, Bk, hcs, hall⟩, hin⟩ := hrel
    by_cases hlt : k < n
    · have hki : (k : Int) < (n : Int) := by omega
      obtain ⟨b, off, a', c', rfl, hB, x0, x1, hsl⟩ := (HN.out.below hb).at hlt
      have hbl' : bl.length = k := by have : (srvs bl).length = bl.length := srvs_len bl; rw [← this, hbl, List.length_take]; omega
      have HBL := Lib.hid hbl
      have HDJ := Lib.hid hdj
      have htk := totS_len (bs := bs) (k := k) (by omega)
      have HTK := Lib.hid (take_snoc (l := bs) (d := (0, [])) (k := k) (by omega))
      obtain ⟨bx, hbx⟩ : ∃ p, bs.getD k (0, []) = p := ⟨_, rfl⟩
      rw [hbx] at x0 x1 hsl htk HTK
      have HA := Lib.hid hall
      have HIN := Lib.hid hin
      have HSL := Lib.hid (hsl.mono hb.size)
      have q := Bk.lt
      have qb := World.block_lt_of_cell? _ _ x0
      clear hbx hbl hall hin hsl hdj
      go_wp2_with fail
      refine (toReg_c bx.1 _ _ _ bx.2 _ rfl (by omega) HSL.out).mono ?_
      rintro e w2 ⟨a2, rfl, hb2, ho2⟩
      have B2 := Bk.below hb2
      obtain ⟨v0, e0⟩ := arr_some (show k * 2 < cs.size by omega)
      obtain ⟨v1, e1⟩ := arr_some (show k * 2 + 1 < cs.size by omega)
      have c0 := B2.cell _ e0
      have c1 := B2.cell _ e1
      have f0 := B2.free (k * 2)
      have f1 := B2.free (k * 2 + 1)
      have HO := Lib.hid ho2
      have hbb := bstep hb hb2
      have z2 := hb2.size
      clear Bk ho2 e0 e1 x0 x1
      go_wp2_with fail
      go_roundw
      case rel =>
        have hap := ow_apt HO.out (b := w.heap.size) (by omega)
        refine ⟨k + 1, bl ++ [(bx.1, bx.2, a2, bx.2.length)], by omega, by go_num, ?_, by rw [srvs_snoc, HBL.out, HTK.out], dj_snoc HDJ.out (fun u m h1 h2 => ow_new HO.out (HIN.out u m).2.2.1 (Nat.le_refl _) h1 h2), ⟨_, (B2.set (k * 2) _).set (k * 2 + 1) _, by simpa using hcs, ?_⟩, ?_⟩
        · repeat (first | with_reducible exact hbb | with_reducible refine Below.setCell ?_ (by simp) _)
        · intro i hi
          by_cases e : i = k
          · subst e
            have eg : (bl ++ [(bx.1, bx.2, a2, bx.2.length)]).getD i (0, [], none, 0) = (bx.1, bx.2, a2, bx.2.length) := by
              rw [List.getD_eq_getElem?_getD, List.getElem?_append_right (by omega)]; simp [hbl']
            rw [eg]
            constructor
            · rw [Array.getElem?_setIfInBounds_ne (by omega), Array.getElem?_setIfInBounds_self_of_lt (by omega)]
            · rw [Array.getElem?_setIfInBounds_self_of_lt (by simp; omega)]; rfl
          · rw [getD_snoc_lt (by omega), Array.getElem?_setIfInBounds_ne (by omega), Array.getElem?_setIfInBounds_ne (by omega), Array.getElem?_setIfInBounds_ne (by omega), Array.getElem?_setIfInBounds_ne (by omega)]
            exact HA.out i (by omega)
        · intro t m
          rcases List.mem_append.1 m with m | m
          · obtain ⟨i1, i2, i3, i4⟩ := HIN.out t m
            exact ⟨i1, i2, by simpa [World.setCell] using i3.mono z2, ow_oth (ow_oth (i4.below hb2) i3) i3⟩
          · rw [List.mem_singleton.1 m]
            exact ⟨Nat.le_refl _, by show bx.2.length ≤ _; omega, by simpa [World.setCell] using hap, ow_oth (ow_oth (HO.out.mono hb.size) hap) hap⟩
      case measure => simp [intOf]; omega
    · obtain rfl : k = n := by omega
      have hbl' : bl.length = k := by have : (srvs bl).length = bl.length := srvs_len bl; rw [← this, hbl, List.length_take]; omega
      have q := Bk.lt
      rw [List.take_of_length_le (by omega)] at hbl
      have HBL := Lib.hid hbl
      have HCP := Lib.hid (fun t m => (hin t m).1)
      have HR := Lib.hid (show Rw wr w.heap.size wr.heap.size (some ⟨w.heap.size, 0, none⟩) bl from .inr ⟨_, cs, rfl, Nat.le_refl _, q, Bk, by omega, by rw [hbl']; exact hall, fun t m => (hin t m).2, hdj⟩)
      clear hbl hall hin Bk hdj
      go_wp2_with fail
      go_ret
      exact ⟨_, bl, rfl, hb, HBL.out, HCP.out, HR.out⟩
end Go.Proofs.Ytjlaikmilcgmhaa
