/- The draws for derivations. -/
import Derived.Test.YtdnkopnhpffcdaaVk
namespace Go.Proofs.Ytdnkopnhpffcdaa
open Go.RowKit
set_option linter.unusedVariables false

theorem bx_s {a w : World} {bk p : Nat} (h : RS a bk p w) (hp : p ≤ 700000) :
    Calls Try.prog 38 #[.pointer (some ⟨bk, 0, none⟩)] w fun e w' => ∃ (q : Nat) (bl : BL) (ab : Option Addr) (c : Nat), e = .returned (.slice ab bl.length c) ∧ q ≤ p + 300 ∧ bl.length ≤ 10 ∧ (∀ t ∈ bl, t.2.1.length ≤ 5) ∧ RS a bk q w' ∧ Lo bk w w' ∧ BxR w' w.heap.size (.slice ab bl.length c) bl :=
  (bx_r h.1 hp).mono fun e w' ⟨q, bl, ab, c, he, hq, hl, hm, hS, hrow⟩ => ⟨q, bl, ab, c, he, hq, hl, hm, h.trans hS, hS.2, hrow⟩
theorem BxR.mono {w : World} {base B' : Nat} {v : Value} {bl : BL} (h : BxR w base v bl) (hB : B' ≤ base) : BxR w B' v bl :=
  ⟨row_mono h.1 hB, fun t m => row_mono (h.2 t m) hB⟩
/-- Boxes and known atoms as they lie there. -/
def Lies (w : World) (bs : BX) (a : Option Addr) (c : Nat) (L : List Int) (ak : Option Addr) (ck : Nat) : Prop :=
  bs.length ≤ 10 ∧ L.length ≤ 4 ∧ bs.length ≤ c ∧ L.length ≤ ck ∧ Ns 1 inG w w.heap.size a bs.length bs ∧ Sl 1 w w.heap.size ak L.length (inG L)
theorem lies_of {w : World} {b1 b2 c ck : Nat} {a ak : Option Addr} {bl : BL} {L : List Int} (h : BxR w b1 (.slice a bl.length c) bl) (hk : w.ownsRow b2 3 1 (.slice ak L.length ck) L.length (ints L)) (h1 : bl.length ≤ 10) (h2 : ∀ t ∈ bl, t.2.1.length ≤ 5) (h3 : L.length ≤ 4) : Lies w (boxesOf bl) a c L ak ck := by
  have e : (boxesOf bl).length = bl.length := by simp [boxesOf]
  refine ⟨by omega, h3, by rw [e]; exact row_cap h.1, row_cap hk, ?_, (isl_row hk (by omega)).sl⟩
  rw [e]
  exact h.ns rfl (by omega) (fun t m => Nat.le_trans (h2 t m) (by omega))
theorem bx_len (bl : BL) : (boxesOf bl).length = bl.length := by simp [boxesOf]

set_option maxHeartbeats 1000000 in
theorem draw_der (w : World) (a : Option Addr) (len cap : Nat) (zs : List Int) (h : IsRow .u8 w a len cap zs) :
    Calls Try.prog 14 #[.slice a len cap] w fun e w' => ∃ (bs : BX) (ab : Option Addr) (c : Nat) (L : List Int) (ak : Option Addr) (ck : Nat), e = .returned (.tuple #[.slice ab bs.length c, .slice ak L.length ck]) ∧ Below w.heap.size w w' ∧ Lies w' bs ab c L ak ck := by
  have HO := Lib.hid (open_s _ a len cap zs h)
  clear h
  go_enter Try.func14, Try.ntmps14
  go_wp2_with fail
  refine HO.out.mono ?_
  rintro e1 w1 ⟨bk, rfl, hbk, hS1⟩
  have q1 := hS1.lt
  clear HO
  go_wp2_with fail
  refine (bx_s hS1 (by omega)).mono ?_
  rintro e1 w2 ⟨q2, bl, ab, c, rfl, hq2, hbl, hm, hS2, hl2, own2⟩
  have HM := Lib.hid hm
  clear hS1 hl2 hm
  go_wp2_with fail
  refine (kn_s hS2 (by omega)).mono ?_
  rintro e1 w3 ⟨q3, L, ak, ck, rfl, hq3, hL, hS3, hl3, ownk⟩
  have own3 := own2.lo hl3 q1
  have HR := Lib.hid (lies_of own3 ownk hbl HM.out hL)
  have HB := Lib.hid (hS3.2.below hbk)
  clear hS2 own2 hl3 hS3 own3 ownk
  go_wp2_with fail
  refine bodyPost_ret (v := .tuple #[.slice ab bl.length c, .slice ak L.length ck]) ?_ rfl ⟨boxesOf bl, ab, c, L, ak, ck, by rw [bx_len], HB.out, HR.out⟩
  simp only [results, Try.results14]
  go_simp
set_option maxHeartbeats 1000000 in
theorem draw_opn (w : World) (a : Option Addr) (len cap : Nat) (zs : List Int) (h : IsRow .u8 w a len cap zs) :
    Calls Try.prog 34 #[.slice a len cap] w fun e w' => ∃ (bs : BX) (ab : Option Addr) (c : Nat) (L : List Int) (ak : Option Addr) (ck : Nat), e = .returned (.tuple #[.slice ab bs.length c, .slice ak L.length ck]) ∧ Below w.heap.size w w' ∧ Lies w' bs ab c L ak ck := by
  have HO := Lib.hid (draw_der _ a len cap zs h)
  clear h
  go_enter Try.func34, Try.ntmps34
  go_wp2_with fail
  refine HO.out.mono ?_
  rintro e1 w1 ⟨bs, ab, c, L, ak, ck, rfl, hb, hl⟩
  have HL := Lib.hid hl
  clear hl
  go_wp2_with fail
  refine bodyPost_ret (v := .tuple #[.slice ab bs.length c, .slice ak L.length ck]) ?_ rfl ⟨bs, ab, c, L, ak, ck, rfl, hb, HL.out⟩
  simp only [results, Try.results34]
  go_simp
set_option maxHeartbeats 2000000 in
theorem draw_drv (w : World) (a : Option Addr) (len cap : Nat) (zs : List Int) (h : IsRow .u8 w a len cap zs) :
    Calls Try.prog 27 #[.slice a len cap] w fun e w' => ∃ (bs : BX) (ab : Option Addr) (c : Nat) (L : List Int) (ak : Option Addr) (ck : Nat) (x : Int), e = .returned (.tuple #[.slice ab bs.length c, .slice ak L.length ck, .int .i64 x]) ∧ Below w.heap.size w w' ∧ Lies w' bs ab c L ak ck := by
  have HO := Lib.hid (open_s _ a len cap zs h)
  clear h
  go_enter Try.func27, Try.ntmps27
  go_wp2_with fail
  refine HO.out.mono ?_
  rintro e1 w1 ⟨bk, rfl, hbk, hS1⟩
  have q1 := hS1.lt
  clear HO
  go_wp2_with fail
  refine (bx_s hS1 (by omega)).mono ?_
  rintro e1 w2 ⟨q2, bl, ab, c, rfl, hq2, hbl, hm, hS2, hl2, own2⟩
  have q2' := hS2.lt
  have HM := Lib.hid hm
  clear hS1 hl2 hm
  go_wp2_with fail
  refine (kn_s hS2 (by omega)).mono ?_
  rintro e1 w3 ⟨q3, L, ak, ck, rfl, hq3, hL, hS3, hl3, ownk⟩
  have own3 := own2.lo hl3 q1
  clear hS2 own2 hl3
  go_wp2_with fail
  refine (atom_s hS3 (by omega)).mono ?_
  rintro e1 w4 ⟨x, q4, rfl, hx, hq4, hS4, hl4⟩
  have own4 := own3.lo hl4 q1
  have ownk4 := row_lo ownk hl4 q2'
  clear hS3 own3 ownk hl4
  go_wp2_with fail
  go_loopw [8, 9] (fun xv i wr => ∃ (k q : Nat) (x : Int), k ≤ 3 ∧ i = .int .i64 k ∧ xv = .int .i64 x ∧ q ≤ q4 + 2 * k ∧ RS w bk q wr ∧ BxR wr w1.heap.size (.slice ab bl.length c) bl ∧ wr.ownsRow w2.heap.size 3 1 (.slice ak L.length ck) L.length (ints L)) (fun _ i _ => 3 - (intOf i).toNat)
  case atStart => exact ⟨0, q4, x, by omega, rfl, rfl, by omega, hS4, own4, ownk4⟩
  case round =>
    clear hS4 own4 ownk4 hx
    obtain ⟨k, q, x, hk, rfl, rfl, hq, hSr, ownr, ownkr⟩ := hrel
    have HR := Lib.hid (lies_of ownr ownkr hbl HM.out hL)
    by_cases hlt : k < 3
    · have hki : (k : Int) < 3 := by omega
      have HD := Lib.hid (drv_spec ab ak bl.length c L.length ck (boxesOf bl) L x wr (by have := HR.out.2.2.2.2.1; rwa [bx_len] at this) rfl HR.out.2.2.2.2.2)
      obtain ⟨b, hbd⟩ : ∃ b, drvOk (boxesOf bl) L x = b := ⟨_, rfl⟩
      rw [hbd] at HD
      clear hbd
      go_wp2_with fail
      refine HD.out.mono ?_
      rintro e1 w5 ⟨rfl, hb5⟩
      have hS5 := hSr.of hb5
      have own5 := ownr.below hb5
      have ownk5 := row_below ownkr hb5
      clear hSr ownr ownkr hb5 HR
      cases b
      · go_wp2_with fail
        refine (atom_s hS5 (by omega)).mono ?_
        rintro e1 w6 ⟨x6, q6, rfl, hx6, hq6, hS6, hl6⟩
        have own6 := own5.lo hl6 q1
        have ownk6 := row_lo ownk5 hl6 q2'
        clear hS5 own5 ownk5 hl6
        go_wp2_with fail
        go_roundw
        case rel => exact ⟨k + 1, q6, x6, by omega, by go_num, rfl, by omega, hS6, own6, ownk6⟩
        case measure => simp [intOf]; omega
      · have HR := Lib.hid (lies_of own5 ownk5 hbl HM.out hL)
        have HB := Lib.hid (hS5.2.below hbk)
        clear hS5 own5 ownk5
        go_wp2_with fail
        refine bodyPost_ret (v := .tuple #[.slice ab bl.length c, .slice ak L.length ck, .int .i64 x]) ?_ rfl (by first | exact ⟨boxesOf bl, ab, c, L, ak, ck, x, by rw [bx_len], HB.out, HR.out⟩ | exact ⟨boxesOf bl, ab, c, L, ak, ck, ⟨x, by rw [bx_len]⟩, HB.out, HR.out⟩)
        simp only [results, Try.results27]
        go_simp
    · have hki : ¬ (k : Int) < 3 := by omega
      have HB := Lib.hid (hSr.2.below hbk)
      clear hSr ownr ownkr
      go_wp2_with fail
      refine bodyPost_ret (v := .tuple #[.slice ab bl.length c, .slice ak L.length ck, .int .i64 x]) ?_ rfl (by first | exact ⟨boxesOf bl, ab, c, L, ak, ck, x, by rw [bx_len], HB.out, HR.out⟩ | exact ⟨boxesOf bl, ab, c, L, ak, ck, ⟨x, by rw [bx_len]⟩, HB.out, HR.out⟩)
      simp only [results, Try.results27]
      go_simp
set_option maxHeartbeats 2000000 in
theorem draw_grd (w : World) (a : Option Addr) (len cap : Nat) (zs : List Int) (h : IsRow .u8 w a len cap zs) :
    Calls Try.prog 28 #[.slice a len cap] w fun e w' => ∃ (bs : BX) (ab : Option Addr) (c : Nat) (L : List Int) (ak : Option Addr) (ck : Nat) (x : Int), e = .returned (.tuple #[.slice ab bs.length c, .slice ak L.length ck, .int .i64 x]) ∧ Below w.heap.size w w' ∧ Lies w' bs ab c L ak ck := by
  have HO := Lib.hid (open_s _ a len cap zs h)
  clear h
  go_enter Try.func28, Try.ntmps28
  go_wp2_with fail
  refine HO.out.mono ?_
  rintro e1 w1 ⟨bk, rfl, hbk, hS1⟩
  have q1 := hS1.lt
  have z1 := hS1.2.size
  clear HO
  go_wp2_with fail
  refine (bx_s hS1 (by omega)).mono ?_
  rintro e1 w2 ⟨q2, bl, ab, c, rfl, hq2, hbl, hm, hS2, hl2, own2⟩
  have z2 := hl2.size
  have HM := Lib.hid hm
  clear hS1 hl2 hm
  go_wp2_with fail
  refine (kn_s hS2 (by omega)).mono ?_
  rintro e1 w3 ⟨q3, L, ak, ck, rfl, hq3, hL, hS3, hl3, ownk⟩
  have own3 := own2.lo hl3 q1
  have ownk3 := row_mono ownk (B' := w1.heap.size) z2
  have z3 := hl3.size
  clear hS2 own2 hl3 ownk
  go_wp2_with fail
  refine (atom_s hS3 (by omega)).mono ?_
  rintro e1 w4 ⟨x, q4, rfl, hx, hq4, hS4, hl4⟩
  have own4 := own3.lo hl4 q1
  have ownk4 := row_lo ownk3 hl4 q1
  have z4 := hl4.size
  clear hS3 own3 ownk3 hl4
  go_wp2_with fail
  go_loopw [6, 7, 8, 9] (fun bv kv xv i wr => ∃ (k q : Nat) (bl : BL) (ab : Option Addr) (c : Nat) (L : List Int) (ak : Option Addr) (ck : Nat) (x : Int), k ≤ 10 ∧ i = .int .i64 k ∧ xv = .int .i64 x ∧ bv = .slice ab bl.length c ∧ kv = .slice ak L.length ck ∧ q ≤ q4 + 400 * k ∧ bl.length ≤ 10 ∧ (∀ t ∈ bl, t.2.1.length ≤ 5) ∧ L.length ≤ 4 ∧ w1.heap.size ≤ wr.heap.size ∧ RS w bk q wr ∧ BxR wr w1.heap.size (.slice ab bl.length c) bl ∧ wr.ownsRow w1.heap.size 3 1 (.slice ak L.length ck) L.length (ints L)) (fun _ _ _ i _ => 10 - (intOf i).toNat)
  case atStart => exact ⟨0, q4, bl, ab, c, L, ak, ck, x, by omega, rfl, rfl, rfl, rfl, by omega, hbl, HM.out, hL, by omega, hS4, own4, ownk4⟩
  case round =>
    clear hS4 own4 ownk4 hx
    obtain ⟨k, q, bl, ab, c, L, ak, ck, x, hk, rfl, rfl, rfl, rfl, hq, hbl, hm, hL, zw, hSr, ownr, ownkr⟩ := hrel
    have HM := Lib.hid hm
    clear hm
    have HR := Lib.hid (lies_of ownr ownkr hbl HM.out hL)
    by_cases hlt : k < 10
    · have hki : (k : Int) < 10 := by omega
      have HD := Lib.hid (grd_spec ab ak bl.length c L.length ck (boxesOf bl) L x wr (by have := HR.out.2.2.2.2.1; rwa [bx_len] at this) rfl HR.out.2.2.2.2.2)
      obtain ⟨G, hG⟩ : ∃ G, guardL (boxesOf bl) L x = G := ⟨_, rfl⟩
      rw [hG] at HD
      clear hG
      go_wp2_with fail
      refine HD.out.mono ?_
      rintro e1 w5 ⟨aG, cG, rfl, hb5, -⟩
      have hS5 := hSr.of hb5
      have own5 := ownr.below hb5
      have ownk5 := row_below ownkr hb5
      have z5 := hS5.2.size
      have zr := hSr.2.size
      clear hSr ownr ownkr HR
      by_cases hG0 : G.length = 0
      · have hG0' : ((G.length : Int) == 0) = true := by simp [hG0]
        have hz := hb5.size
        have zr1 : w1.heap.size ≤ w5.heap.size := by omega
        clear hG0 hb5
        go_wp2_with fail
        refine (bx_s hS5 (by omega)).mono ?_
        rintro e1 w6 ⟨q6, bl6, ab6, c6, rfl, hq6, hbl6, hm6, hS6, hl6, own6⟩
        have z6 := hl6.size
        clear hS5 own5 ownk5 hl6
        have HM6 := Lib.hid hm6
        clear hm6
        go_wp2_with fail
        refine (kn_s hS6 (by omega)).mono ?_
        rintro e1 w7 ⟨q7, L7, ak7, ck7, rfl, hq7, hL7, hS7, hl7, ownk7⟩
        have own7 := (own6.mono (B' := w1.heap.size) zr1).lo hl7 q1
        have ownk7' := row_mono ownk7 (B' := w1.heap.size) (by omega)
        have z7 := hl7.size
        clear hS6 own6 hl7 ownk7
        go_wp2_with fail
        refine (atom_s hS7 (by omega)).mono ?_
        rintro e1 w8 ⟨x8, q8, rfl, hx8, hq8, hS8, hl8⟩
        have own8 := own7.lo hl8 q1
        have ownk8 := row_lo ownk7' hl8 q1
        have z8 := hl8.size
        clear hS7 own7 hl8 ownk7'
        go_wp2_with fail
        go_roundw
        case rel => exact ⟨k + 1, q8, bl6, ab6, c6, L7, ak7, ck7, x8, by omega, by go_num, rfl, rfl, rfl, by omega, hbl6, HM6.out, hL7, by omega, hS8, own8, ownk8⟩
        case measure => simp [intOf]; omega
      · have hG0' : ((G.length : Int) == 0) = false := by rw [beq_eq_false_iff_ne]; omega
        have HR := Lib.hid (lies_of own5 ownk5 hbl HM.out hL)
        have HB := Lib.hid (hS5.2.below hbk)
        clear hS5 own5 ownk5 hG0
        go_wp2_with fail
        refine bodyPost_ret (v := .tuple #[.slice ab bl.length c, .slice ak L.length ck, .int .i64 x]) ?_ rfl (by first | exact ⟨boxesOf bl, ab, c, L, ak, ck, x, by rw [bx_len], HB.out, HR.out⟩ | exact ⟨boxesOf bl, ab, c, L, ak, ck, ⟨x, by rw [bx_len]⟩, HB.out, HR.out⟩)
        simp only [results, Try.results28]
        go_simp
    · have hki : ¬ (k : Int) < 10 := by omega
      have HB := Lib.hid (hSr.2.below hbk)
      clear hSr ownr ownkr
      go_wp2_with fail
      refine bodyPost_ret (v := .tuple #[.slice ab bl.length c, .slice ak L.length ck, .int .i64 x]) ?_ rfl (by first | exact ⟨boxesOf bl, ab, c, L, ak, ck, x, by rw [bx_len], HB.out, HR.out⟩ | exact ⟨boxesOf bl, ab, c, L, ak, ck, ⟨x, by rw [bx_len]⟩, HB.out, HR.out⟩)
      simp only [results, Try.results28]
      go_simp
end Go.Proofs.Ytdnkopnhpffcdaa
