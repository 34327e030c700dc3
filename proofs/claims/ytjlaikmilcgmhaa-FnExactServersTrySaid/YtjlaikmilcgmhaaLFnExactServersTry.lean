/- The program's ServersTry returns what the reference's returns, for all arguments, leaves its argument as it was, and hands back memory that nothing else shares.
   No condition: it holds for every input. -/
import Derived.Test.YtjlaikmilcgmhaaRows
import Derived.WalkKit
import Derived.ProofKit
import Derived.OpenShut
import Derived.ShutString
import Derived.ChangeOld
import Derived.Below
import Derived.Lib.SmallJoins
import Derived.Test.YtjlaikmilcgmhaaUd
import Derived.Test.YtjlaikmilcgmhaaSe
import Derived.Test.YtjlaikmilcgmhaaGk
namespace Go.Proofs.Ytjlaikmilcgmhaa.fnExactServersTry
open Go.ChangeShapes Go.WideShapes Go.ChangeAt Go.RowKit Go.Joins
open Go.ChangeMaps (open_string shut_string)
set_option linter.unusedVariables false

theorem offS_small {bs : SV} (h : ∀ i, i < bs.length → (bs.getD i (0, [])).2.length ≤ 8) : ∀ n, n ≤ bs.length → offS bs n ≤ 17 * n := by
  intro n
  induction n with
  | zero => intro _; simp [offS]
  | succ n ih => intro hn; have := ih (by omega); have := h n (by omega); rw [offS_succ (by omega)]; omega
theorem sres_small (ss : SV) (A : Int) (t : Int × Int) : (sRes ss A t).length ≤ 4 ∧ offS (sRes ss A t) (sRes ss A t).length ≤ 68 := by
  unfold sRes
  by_cases h : sTryOk ss A t = true
  · rw [if_pos h]
    obtain ⟨g1, g2⟩ := srv_t (sput_ok h)
    have := offS_small (fun i hi => by have := (regOk_t (g2 i hi)).2.1; omega) _ (Nat.le_refl (sPut ss A t).length)
    omega
  · rw [if_neg h]; simp [offS]
def TRp (n0 : Nat) (bs : SV) (w : World) (e : Ending) (w' : World) : Prop :=
  ∃ (a' : Option Addr) (bl : SR), e = .returned (.slice a' n0 n0) ∧ Below w.heap.size w w' ∧ srvs bl = bs ∧ bl.length = n0 ∧ (∀ t ∈ bl, t.2.1.length ≤ t.2.2.2) ∧ Rw w' w.heap.size w'.heap.size a' bl
def STp (R : SV) (V : Bool) (w : World) (e : Ending) (w' : World) : Prop :=
  ∃ (a' : Option Addr) (c : Nat) (bl : SR), e = .returned (.tuple #[.slice a' R.length c, .bool V]) ∧ Below w.heap.size w w' ∧ srvs bl = R ∧ bl.length = R.length ∧ Rw w' w.heap.size w'.heap.size a' bl
theorem trs_c (a0 : Option Addr) (n0 q0 : Nat) (bs : SV) (w : World) (ht : totS bs ≤ 1048576) (hnl : bs.length = n0) (HB : Nr w w.heap.size a0 n0 bs) : Calls Try.prog 10 #[.slice a0 n0 q0] w (TRp n0 bs w) :=
  (toRS_c a0 n0 q0 bs w ht HB).mono fun e w' ⟨a', bl, he, hb, h1, h2, h3⟩ => ⟨a', bl, he, hb, h1, by rw [← hnl, ← h1, srvs_len], h2, h3⟩
theorem stry_p (A : Int) (t : Int × Int) (a : Option Addr) (n cap : Nat) (ss : SV) (w : World) (HB : Nr w w.heap.size a n ss) : Calls Try.prog 12 #[.slice a n cap, .int .i64 A, .agg #[.int .i64 t.1, .int .i64 t.2]] w (STp (sRes ss A t) (sV ss A t) w) :=
  (stry_own A t a n cap ss w HB).mono fun e w' ⟨a', c, bl, he, hb, g1, g2⟩ => ⟨a', c, bl, by rw [he, ← g1, srvs_len], hb, g1, by rw [← g1, srvs_len], g2⟩
set_option maxRecDepth 100000 in
set_option maxHeartbeats 8000000 in
theorem walk (a0 : Option Addr) (n0 q0 : Nat) (bs : SV) (x : Int) (ti ts : Int) (w : World) (s0 : Nr w w.heap.size a0 n0 bs) (wx : (Lit.int .i64 x).wf = true) :
    Calls Try.prog 3 #[.slice a0 n0 q0, .int .i64 x, .agg #[.int .i64 ti, .int .i64 ts]] w fun e w' => e = .returned (.bool true) ∧ Below w.heap.size w w' := by
  have hnl := s0.length
  have HA := Lib.hid (fun (w' : World) (D : Below w.heap.size w w') => (s0.below D).mono D.size)
  have D0 := bpush (Below.refl w.heap.size w) (Obj.cells #[.int .i64 ti, .int .i64 ts] 24)
  have T0 := Blk.new w #[.int .i64 ti, .int .i64 ts] 24
  have HZ := Lib.hid (szRS_c 1048576 a0 n0 q0 bs _ (by omega) (by omega) (HA.out _ D0))
  obtain ⟨hr4, hr68⟩ := sres_small bs x (ti, ts)
  have HSp := fun (w' : World) (a : Option Addr) (bl : SR) (B H : Nat) (h1 : srvs bl = bs) (h2 : bl.length = n0) (h3 : ∀ t ∈ bl, t.2.1.length ≤ t.2.2.2) (hR : n0 ≤ 1048576) (RW : Rw w' B H a bl) => stry_spec x (ti, ts) a n0 n0 bs w' (by have := RW.ns (by omega) h3; rwa [h2, h1] at this)
  have HIm := fun (w' : World) (a : Option Addr) (bl : SR) (B H : Nat) (h1 : srvs bl = bs) (h2 : bl.length = n0) (h3 : ∀ t ∈ bl, t.2.1.length ≤ t.2.2.2) (hR : n0 ≤ 1048576) (RW : Rw w' B H a bl) => stry_p x (ti, ts) a n0 n0 bs w' (by have := RW.nr (by omega); rwa [h2, h1] at this)
  obtain ⟨R, hR⟩ : ∃ y, sRes bs x (ti, ts) = y := ⟨_, rfl⟩
  obtain ⟨V, hV⟩ : ∃ y, sV bs x (ti, ts) = y := ⟨_, rfl⟩
  rw [hR] at hr4 hr68
  rw [hR, hV] at HSp HIm
  have HSq := Lib.hid HSp
  have HIq := Lib.hid HIm
  clear s0 hR hV HSp HIm
  go_enter Try.func3, Try.ntmps3
  go_wp2_with fail
  refine HZ.out.mono ?_
  rintro e w1 ⟨r, rfl, hr, hb1⟩
  have D1 := bstep D0 hb1
  have T1 := T0.below hb1
  clear HZ D0 T0 hb1
  rcases hr with rfl | ⟨hr1, hr2⟩
  · go_wp2_with fail
    go_ret
    exact ⟨rfl, D1⟩
  have htot : totS bs ≤ 1048576 := by omega
  have hr3 : ¬ r < 0 := by omega
  have hn1 : n0 ≤ 1048576 := by have : bs.length ≤ totS bs := (by unfold totS; omega); omega
  have hoff : offS bs n0 ≤ 100000000 := by have := offS_tot bs; rw [hnl] at this; omega
  have HTR := Lib.hid (fun (w' : World) (D : Below w.heap.size w w') => trs_c a0 n0 q0 bs w' htot hnl (HA.out w' D))
  have HS := Lib.hid (fun (w' : World) (a : Option Addr) (bl : SR) (B H : Nat) (h1 : srvs bl = bs) (h2 : bl.length = n0) (h3 : ∀ t ∈ bl, t.2.1.length ≤ t.2.2.2) (RW : Rw w' B H a bl) => HSq.out w' a bl B H h1 h2 h3 hn1 RW)
  have HI := Lib.hid (fun (w' : World) (a : Option Addr) (bl : SR) (B H : Nat) (h1 : srvs bl = bs) (h2 : bl.length = n0) (h3 : ∀ t ∈ bl, t.2.1.length ≤ t.2.2.2) (RW : Rw w' B H a bl) => HIq.out w' a bl B H h1 h2 h3 hn1 RW)
  clear hr1 hr2 HSq HIq htot
  have HOF := Lib.hid hoff
  have HO8 := Lib.hid hr68
  clear hoff hr68
  go_upto_region 5 with fail
  go_cut [8, 9] (fun s8 s9 wx => ∃ (aW : Option Addr) (cW : Nat), s8 = .slice aW R.length cW ∧ s9 = .bool V ∧ Below w1.heap.size w1 wx ∧ Nr wx wx.heap.size aW R.length R)
  case first =>
    go_region_held3 (fun w' => w'.cell? ⟨w.heap.size, 0, none⟩ = some (.int .i64 ti) ∧ w'.cell? ⟨w.heap.size, 1, none⟩ = some (.int .i64 ts))
      (exact ⟨(show Blk _ (w.heap.size) #[.int .i64 ti, .int .i64 ts] 24 from by repeat (first | with_reducible assumption | with_reducible refine Blk.drew ?_ | with_reducible refine Blk.alloc ?_ _)).cell 0 rfl, (show Blk _ (w.heap.size) #[.int .i64 ti, .int .i64 ts] 24 from by repeat (first | with_reducible assumption | with_reducible refine Blk.drew ?_ | with_reducible refine Blk.alloc ?_ _)).cell 1 rfl⟩)
      (first | (go_at_call 10; (first | with_reducible refine (HTR.out _ (bdrew D1)).mono ?_ | with_reducible refine (HTR.out _ Dt).mono ?_); rintro e wr ⟨ar, blr, rfl, hbr, hsr, hlr, hcr, RWr⟩; have Tr := (show Blk _ (w.heap.size) #[.int .i64 ti, .int .i64 ts] 24 from by repeat (first | with_reducible assumption | with_reducible refine Blk.drew ?_ | with_reducible refine Blk.alloc ?_ _)).below hbr; have Dr := bstep (show Below w.heap.size w _ from (by repeat (first | with_reducible assumption | with_reducible exact Below.refl _ _ | with_reducible refine bdrew ?_))) hbr; have Er := bstep (show Below w1.heap.size w1 _ from (by repeat (first | with_reducible assumption | with_reducible exact Below.refl _ _ | with_reducible refine bdrew ?_))) hbr) | (go_at_call 11; with_reducible refine (toTicket_c _ _ _).mono ?_; rintro e wt ⟨rfl, hbt⟩; have Tt := (show Blk _ (w.heap.size) #[.int .i64 ti, .int .i64 ts] 24 from by repeat (first | with_reducible assumption | with_reducible refine Blk.drew ?_ | with_reducible refine Blk.alloc ?_ _)).below hbt; have Dt := bstep (show Below w.heap.size w _ from (by repeat (first | with_reducible assumption | with_reducible exact Below.refl _ _ | with_reducible refine bdrew ?_))) hbt; have Et := bstep (show Below w1.heap.size w1 _ from (by repeat (first | with_reducible assumption | with_reducible exact Below.refl _ _ | with_reducible refine bdrew ?_))) hbt) | (go_at_call 9; (first | with_reducible refine (HS.out wt _ blr _ _ hsr hlr hcr (RWr.below hbt)).mono ?_ | with_reducible refine (HS.out wr _ blr _ _ hsr hlr hcr RWr).mono ?_); rintro e ws ⟨aW, cW, rfl, hbs, NRw⟩; have Ts := (show Blk _ (w.heap.size) #[.int .i64 ti, .int .i64 ts] 24 from by repeat (first | with_reducible assumption | with_reducible refine Blk.drew ?_ | with_reducible refine Blk.alloc ?_ _)).below hbs; have Ds := bstep (show Below w.heap.size w _ from (by repeat (first | with_reducible assumption | with_reducible exact Below.refl _ _ | with_reducible refine bdrew ?_))) hbs; have Es := bstep (show Below w1.heap.size w1 _ from (by repeat (first | with_reducible assumption | with_reducible exact Below.refl _ _ | with_reducible refine bdrew ?_))) hbs) | fail)
    all_goals
      go_wp2_with fail
      go_meet
      case rel => exact ⟨aW, cW, rfl, rfl, Es, NRw⟩
  case rest =>
    obtain ⟨w2, hw2⟩ : ∃ x, x = wc := ⟨_, rfl⟩
    subst hw2
    obtain ⟨aW, cW, rfl, rfl, hb2, NRw⟩ := hcut
    have D2 := bstep D1 hb2
    have T2 := T1.below hb2
    have E2 := Below.refl w2.heap.size w2
    have HW := Lib.hid (fun (w' : World) (E : Below w2.heap.size w2 w') => (NRw.below E).mono E.size)
    have DD2 := Lib.hid D2
    have TT2 := Lib.hid T2
    clear D1 T1 hb2 NRw
    go_wp2_with fail
    refine (HTR.out w2 D2).mono ?_
    rintro e w3 ⟨aX, blX, rfl, hb3, hsX, hlX, hcX, RX3⟩
    have D3 := bstep D2 hb3
    have E3 := bstep E2 hb3
    have T3 := T2.below hb3
    have HsX := Lib.hid hsX
    have HcX := Lib.hid hcX
    have HRX := Lib.hid RX3
    have z23 := hb3.size
    have F3 := Below.refl w3.heap.size w3
    clear hsX hcX RX3 D2 T2 E2 hb3
    have t30 := T3.cell 0 rfl
    have t31 := T3.cell 1 rfl
    go_wp2_with fail
    refine (toTicket_c _ _ _).mono ?_
    rintro e w4 ⟨rfl, hb4⟩
    have D4 := bstep D3 hb4
    have E4 := bstep E3 hb4
    have F4 := bstep F3 hb4
    have z34 := hb4.size
    clear t30 t31 D3 E3 F3 T3 hb4
    go_wp2_with fail
    refine (HI.out w4 aX blX _ _ HsX.out hlX HcX.out (HRX.out.below F4)).mono ?_
    rintro e w5 ⟨aG, cG, blG, rfl, hb5, hsG, hlG, RG5⟩
    have D5 := bstep D4 hb5
    have E5 := bstep E4 hb5
    have F5 := bstep F4 hb5
    have G5 := Below.refl w5.heap.size w5
    have HsG := Lib.hid hsG
    have HRG := Lib.hid RG5
    have z45 := hb5.size
    clear hsG RG5 D4 E4 F4 hb5
    have HNG := Lib.hid (fun (w' : World) (RW : Rw w' w4.heap.size w5.heap.size aG blG) => (show Nr w' w'.heap.size aG R.length R from by have := RW.nr (by omega); rwa [hlG, HsG.out] at this))
    have HNX := Lib.hid (fun (w' : World) (RW : Rw w' w2.heap.size w3.heap.size aX blX) => (show Nr w' w'.heap.size aX n0 bs from by have := RW.nr (by omega); rwa [hlX, HsX.out] at this))
    go_wp2_with fail
    refine (eqRS_c _ _ _ _ _ R w5 (HNG.out _ HRG.out) (HW.out _ E5)).mono ?_
    rintro e w6 ⟨rfl, hb6⟩
    have D6 := bstep D5 hb6
    have E6 := bstep E5 hb6
    have F6 := bstep F5 hb6
    have G6 := bstep G5 hb6
    clear D5 E5 F5 G5 hb6
    go_wp2_with fail
    refine (HTR.out w6 D6).mono ?_
    rintro e w7 ⟨aY, blY, rfl, hb7, hsY, hlY, hcY, RY7⟩
    have D7 := bstep D6 hb7
    have E7 := bstep E6 hb7
    have F7 := bstep F6 hb7
    have G7 := bstep G6 hb7
    have NY7 := Lib.hid (show Nr w7 w7.heap.size aY n0 bs from by have := RY7.nr (by omega); rwa [hlY, hsY] at this)
    clear D6 E6 F6 G6 hb7 RY7 hsY hlY hcY
    go_wp2_with fail
    refine (eqRS_c _ _ _ _ _ bs w7 (HNX.out _ (HRX.out.below F7)) NY7.out).mono ?_
    rintro e w8 ⟨rfl, hb8⟩
    have D8 := bstep D7 hb8
    have E8 := bstep E7 hb8
    have F8 := bstep F7 hb8
    have G8 := bstep G7 hb8
    clear D7 E7 F7 G7 hb8 NY7
    have hM := Lib.hid (markRS_c 1 (by omega) (by omega) aX n0 n0 w2.heap.size w3.heap.size blX w8 hlX (by rw [HsX.out]; exact HOF.out) (HRX.out.below F8))
    rw [HsX.out] at hM
    obtain ⟨k, hk⟩ : ∃ k : Int, 1 + (offS bs n0 : Int) = k := ⟨_, rfl⟩
    rw [hk] at hM
    have hk0 : ¬ k < 0 := by omega
    clear hk
    go_wp2_with fail
    refine hM.out.mono ?_
    rintro e w9 ⟨rfl, hc9, -⟩
    have z8 := E8.size
    have E9 : Below w2.heap.size w2 w9 := E8.trans (hc9.below (Nat.le_refl _) z8)
    have RG9 := Lib.hid ((HRG.out.below G8).chg hc9 z34)
    have z9 := hc9.size
    have z58 := G8.size
    clear hM E8 F8 G8 D8 hc9
    go_wp2_with fail
    refine (eqRS_c _ _ _ _ _ R w9 (HNG.out _ RG9.out) (HW.out _ E9)).mono ?_
    rintro e w10 ⟨rfl, hb10⟩
    have E10 := bstep E9 hb10
    have RG10 := Lib.hid (RG9.out.below hb10)
    have z10 := hb10.size
    clear E9 RG9 hb10
    have hM := Lib.hid (markRS_c 1 (by omega) (by omega) aG R.length cG w4.heap.size w5.heap.size blG w10 hlG (by rw [HsG.out]; exact Nat.le_trans HO8.out (by omega)) RG10.out)
    rw [HsG.out] at hM
    have HH := Lib.hid (fun (w' : World) (M : Mk w' w'.heap.size aG R.length 1 R) => heldRS_c 1 (by omega) (by omega) aG R.length cG R w' rfl (Nat.le_trans HO8.out (by omega)) M)
    obtain ⟨m, hm⟩ : ∃ m : Int, 1 + (offS R R.length : Int) = m := ⟨_, rfl⟩
    rw [hm] at hM HH
    have hm0 : ¬ m < 0 := by omega
    clear hm RG10
    go_wp2_with fail
    refine hM.out.mono ?_
    rintro e w11 ⟨rfl, hc11, MK11⟩
    have E11 : Below w2.heap.size w2 w11 := E10.trans (hc11.below (by omega) (by omega))
    have HMK := Lib.hid MK11
    clear hM E10 hc11 MK11
    go_wp2_with fail
    refine (HH.out w11 HMK.out).mono ?_
    rintro e wz ⟨rfl, rfl⟩
    have D11 : Below w.heap.size w w11 := DD2.out.trans (E11.mono DD2.out.size)
    have T11 := TT2.out.below E11
    go_upto_region 24 with fail
    go_cut [16, 17] (fun s8 s9 wx => ∃ (aH : Option Addr) (cH : Nat), s8 = .slice aH R.length cH ∧ s9 = .bool V ∧ Below w11.heap.size w11 wx ∧ Nr wx wx.heap.size aH R.length R)
    case first =>
      go_region_held3 (fun w' => w'.cell? ⟨w.heap.size, 0, none⟩ = some (.int .i64 ti) ∧ w'.cell? ⟨w.heap.size, 1, none⟩ = some (.int .i64 ts))
        (exact ⟨(show Blk _ (w.heap.size) #[.int .i64 ti, .int .i64 ts] 24 from by repeat (first | with_reducible assumption | with_reducible refine Blk.drew ?_ | with_reducible refine Blk.alloc ?_ _)).cell 0 rfl, (show Blk _ (w.heap.size) #[.int .i64 ti, .int .i64 ts] 24 from by repeat (first | with_reducible assumption | with_reducible refine Blk.drew ?_ | with_reducible refine Blk.alloc ?_ _)).cell 1 rfl⟩)
        (first | (go_at_call 10; (first | with_reducible refine (HTR.out _ (bdrew D11)).mono ?_ | with_reducible refine (HTR.out _ Dt).mono ?_); rintro e wr ⟨ar, blr, rfl, hbr, hsr, hlr, hcr, RWr⟩; have Tr := (show Blk _ (w.heap.size) #[.int .i64 ti, .int .i64 ts] 24 from by repeat (first | with_reducible assumption | with_reducible refine Blk.drew ?_ | with_reducible refine Blk.alloc ?_ _)).below hbr; have Dr := bstep (show Below w.heap.size w _ from (by repeat (first | with_reducible assumption | with_reducible exact Below.refl _ _ | with_reducible refine bdrew ?_))) hbr; have Er := bstep (show Below w11.heap.size w11 _ from (by repeat (first | with_reducible assumption | with_reducible exact Below.refl _ _ | with_reducible refine bdrew ?_))) hbr) | (go_at_call 11; with_reducible refine (toTicket_c _ _ _).mono ?_; rintro e wt ⟨rfl, hbt⟩; have Tt := (show Blk _ (w.heap.size) #[.int .i64 ti, .int .i64 ts] 24 from by repeat (first | with_reducible assumption | with_reducible refine Blk.drew ?_ | with_reducible refine Blk.alloc ?_ _)).below hbt; have Dt := bstep (show Below w.heap.size w _ from (by repeat (first | with_reducible assumption | with_reducible exact Below.refl _ _ | with_reducible refine bdrew ?_))) hbt; have Et := bstep (show Below w11.heap.size w11 _ from (by repeat (first | with_reducible assumption | with_reducible exact Below.refl _ _ | with_reducible refine bdrew ?_))) hbt) | (go_at_call 12; (first | with_reducible refine (HI.out wt _ blr _ _ hsr hlr hcr (RWr.below hbt)).mono ?_ | with_reducible refine (HI.out wr _ blr _ _ hsr hlr hcr RWr).mono ?_); rintro e ws ⟨aH, cH, blH, rfl, hbs, hsH, hlH, RWH⟩; have Ts := (show Blk _ (w.heap.size) #[.int .i64 ti, .int .i64 ts] 24 from by repeat (first | with_reducible assumption | with_reducible refine Blk.drew ?_ | with_reducible refine Blk.alloc ?_ _)).below hbs; have Ds := bstep (show Below w.heap.size w _ from (by repeat (first | with_reducible assumption | with_reducible exact Below.refl _ _ | with_reducible refine bdrew ?_))) hbs; have Es := bstep (show Below w11.heap.size w11 _ from (by repeat (first | with_reducible assumption | with_reducible exact Below.refl _ _ | with_reducible refine bdrew ?_))) hbs) | fail)
      all_goals
        go_wp2_with fail
        go_meet
        case rel => exact ⟨aH, cH, rfl, rfl, Es, by have := RWH.nr (by omega); rwa [hlH, hsH] at this⟩
    case rest =>
      obtain ⟨w12, hw12⟩ : ∃ x, x = wc := ⟨_, rfl⟩
      subst hw12
      obtain ⟨aH, cH, rfl, rfl, hb12, NRh⟩ := hcut
      have E12 := E11.trans (hb12.mono E11.size)
      have K12 := hb12
      have NH := Lib.hid NRh
      clear NRh T11 D11
      go_wp2_with fail
      refine (eqRS_c _ _ _ _ _ R w12 NH.out (HW.out _ E12)).mono ?_
      rintro e w13 ⟨rfl, hb13⟩
      have E13 := bstep E12 hb13
      have K13 := bstep K12 hb13
      clear E12 K12 hb13 NH
      go_wp2_with fail
      refine (HH.out w13 ((HMK.out.below K13).mono K13.size)).mono ?_
      rintro e wz ⟨rfl, rfl⟩
      go_wp2_with fail
      go_ret
      exact ⟨rfl, DD2.out.trans (E13.mono DD2.out.size)⟩

theorem own : ownKnob Try.prog.godebug = none := by kernel_rfl
theorem laidOut : laidOutB Try.prog = true := by kernel_rfl

set_option maxRecDepth 100000 in
theorem lifted (os : Os) (started : os.Started) (H : Type) (enc : TypeId × Value → H) :
    ReturnsInHanded {} Try.checked os 3 .any (Rows.fnExactServersTrySpec.pre6 enc Try.prog Try.f3 Rows.fnExactServersTryRow.domain false) (Rows.fnExactServersTrySpec.post enc Try.prog Try.f3 false true false false) := by
  refine returnsInHanded_of_change (C := Try.checked) own started (by kernel_rfl) Try.func3
    (ChangeSpec.witness6 (enc := enc) (C := Try.checked) false ⟨#[], #[.slice none 0 0, .int .i64 0, .agg #[.int .i64 0, .int .i64 0]], []⟩ 8 (by kernel_rfl) (by kernel_rfl) (by kernel_rfl) (by kernel_rfl)) ?_
  intro W base args ds gs before hval0 hW hcnd _
  have hval : ∀ (j : Nat) t v, Try.f3.params[j]? = some t → args[j]? = some v → Value.okWide Try.prog W .any base t v := hval0
  have hW' := hW
  obtain ⟨p, q, hA0, hV, rfl, hfz, hnd⟩ := hW
  have hA : DataW.TrodAll enc Try.prog W 0 (fun _ => true) true Try.f3.params.toList args.toList ds p := hA0
  rw [Try.params3] at hA hval
  obtain ⟨v0, vs0, d0, ds0, p0, q0, hargs, rfl, rfl, h0, r0⟩ := trodAll_cons hA
  obtain ⟨v1, vs1, d1, ds1, p1, q1, rfl, rfl, rfl, h1, r1⟩ := trodAll_cons r0
  obtain ⟨v2, vs2, d2, ds2, p2, q2, rfl, rfl, rfl, h2, r2⟩ := trodAll_cons r1
  obtain ⟨rfl, rfl, rfl⟩ := trodAll_nil r2
  obtain rfl : args = #[v0, v1, v2] := by cases args; simp_all
  obtain ⟨rfl, rfl⟩ := trodVars_none hV
  have k0 := h0
  have lt0 : ∀ x ∈ p0, x.block < W.heap.size := by obtain ⟨m, hm⟩ := k0; exact DataW.trod_lt m _ _ _ hm
  have k1 := h1
  have lt1 : ∀ x ∈ p1, x.block < W.heap.size := by obtain ⟨m, hm⟩ := k1; exact DataW.trod_lt m _ _ _ hm
  have k2 := h2
  have lt2 : ∀ x ∈ p2, x.block < W.heap.size := by obtain ⟨m, hm⟩ := k2; exact DataW.trod_lt m _ _ _ hm
  obtain ⟨xa0, xl0, xc0, rfl⟩ := okWide_slice Try.underlying22 (hval 0 22 v0 rfl rfl)
  obtain ⟨fu0, hf0⟩ := h0
  obtain ⟨a0, n0, q0, l0, e0b, s0⟩ := open_rgs Try.underlying22 Try.underlying37 (by kernel_rfl) (by kernel_rfl) rfl rfl Try.underlying3 Try.underlying35 Try.underlying24 (by kernel_rfl) (by kernel_rfl) rfl rfl hf0
  simp only [Value.slice.injEq] at e0b
  obtain ⟨e0c, e0d, e0e⟩ := e0b
  subst e0c e0d e0e
  obtain ⟨a1, rfl, rfl, rfl, w1⟩ := open_int Try.underlying3 (hval 1 3 v1 rfl rfl) h1
  obtain ⟨c2a, c2b, y2a, y2b, m2, rfl, rfl, hp2, hy2a, hy2b⟩ := open_agg2 Try.underlying24 (by kernel_rfl) (by kernel_rfl) (hval 2 24 v2 rfl rfl) h2
  obtain ⟨x2a, e2a, f2a, w2a⟩ := DataW.trod_int Try.underlying3 hy2a
  simp at e2a f2a
  subst e2a
  obtain ⟨x2b, e2b, f2b, w2b⟩ := DataW.trod_int Try.underlying3 hy2b
  simp at e2b f2b
  subst e2b
  clear hA0 hval0
  refine (walk xa0 xl0 xc0 l0 a1 x2a x2b W s0 w1 ).mono fun e W' ⟨he, bel⟩ => ?_
  subst he
  exact ⟨_, rfl, _, _, _, [], _, [], hW', trodAll_mk1 (shut_bool Try.underlying4 _), (trodAll_cons_mk (Below.trod laidOut (by kernel_rfl) (of_decide_eq_true (by kernel_rfl)) k0 bel lt0) (trodAll_cons_mk (Below.trod laidOut (by kernel_rfl) (of_decide_eq_true (by kernel_rfl)) k1 bel lt1) (trodAll_cons_mk (Below.trod laidOut (by kernel_rfl) (of_decide_eq_true (by kernel_rfl)) k2 bel lt2) trodAll_mk0))), rfl, bel.frame _, fun h => by cases h⟩

theorem over : Rows.fnExactServersTryRow.holds Try.pinned (OpenSpec.ofChange Rows.fnExactServersTrySpec) :=
  OpenClaim.holds_of_wide 3 Try.f3 rfl rfl rfl rfl rfl rfl rfl ⟨rfl, rfl, rfl, rfl, rfl⟩ rfl rfl rfl rfl rfl (by kernel_rfl) Try.func3 (by kernel_rfl)
    (of_decide_eq_true (by kernel_rfl)) (by unfold Func.isWrapper; first | (rw [if_pos (by decide +kernel)]; kernel_rfl) | (rw [if_neg (by decide +kernel)]; exact ⟨rfl, rfl⟩))
    (fun os started H enc _ => lifted os started H enc)

/-- The given statement. -/
theorem proved : Rows.FnExactServersTrySaid := over
end Go.Proofs.Ytjlaikmilcgmhaa.fnExactServersTry
