/- The reader of a code: what it is in memory, and the contracts of l6Open and pick. -/
import Derived.Test.YtjlaikmilcgmhaaRows
import Derived.WalkKit
import Derived.Lib.Hide
import Derived.Deep.QuietTactic
import Derived.BigQuiet
namespace Go.Proofs.Ytjlaikmilcgmhaa
open Go.RowKit
set_option linter.unusedVariables false

/-- What is known of a slice of bytes that came in. -/
def IsRow (k : IntKind) (w : World) (a : Option Addr) (len cap : Nat) (zs : List Int) : Prop :=
  (a = none ∧ len = 0 ∧ cap = 0 ∧ zs = []) ∨
  ∃ x, a = some x ∧ len ≤ cap ∧ cap ≤ maxLen ∧ zs.length = cap ∧ (∀ i, i < zs.length → w.cell? (x.add i) = some (.int k (zs.getD i 0))) ∧ ∀ n ∈ zs, (Lit.int k n).wf = true

theorem isrow_alloc {k : IntKind} {w : World} {a : Option Addr} {len cap : Nat} {zs : List Int} (h : IsRow k w a len cap zs) (o : Obj) : IsRow k (w.alloc o) a len cap zs := by
  rcases h with h | ⟨x, h1, h2, h3, h4, h5, h6⟩
  · exact .inl h
  · refine .inr ⟨x, h1, h2, h3, h4, fun i hi => ?_, h6⟩
    have hc := h5 i hi
    exact (World.cell?_alloc_lt _ _ _ (World.block_lt_of_cell? _ _ hc)).trans hc
theorem isrow_below {k : IntKind} {w w' : World} {a : Option Addr} {len cap : Nat} {zs : List Int} (h : IsRow k w a len cap zs) (hb : Below w.heap.size w w') : IsRow k w' a len cap zs := by
  rcases h with h | ⟨x, h1, h2, h3, h4, h5, h6⟩
  · exact .inl h
  · refine .inr ⟨x, h1, h2, h3, h4, fun i hi => ?_, h6⟩
    have hc := h5 i hi
    exact (hb.cell (World.block_lt_of_cell? _ _ hc)).trans hc

/-- The bytes of a reader: n of them, in a block below bk. -/
def Bytes (w : World) (bk : Nat) (sa : Option Addr) (n : Nat) : Prop :=
  n ≤ 2000 ∧ (n = 0 ∨ ∃ b off, sa = some ⟨b, off, none⟩ ∧ b < bk ∧ ∀ i, i < n → ∃ z : Int, (0 ≤ z ∧ z ≤ 255) ∧ w.cell? ⟨b, off + i, none⟩ = some (.int .u8 z))

/-- The reader at block bk, with p numbers picked. -/
def Rdr (w : World) (bk : Nat) (p : Nat) : Prop :=
  ∃ sa n cap, w.cell? ⟨bk, 0, none⟩ = some (.slice sa n cap) ∧ w.cell? ⟨bk, 1, none⟩ = some (.int .i64 (p : Int)) ∧ w.frozen? ⟨bk, 1, none⟩ = false ∧ bk < w.heap.size ∧ Bytes w bk sa n

theorem Bytes.keep {w w' : World} {bk n : Nat} {sa : Option Addr} (h : Bytes w bk sa n) (hk : ∀ k, k < bk → w'.heap[k]? = w.heap[k]?) : Bytes w' bk sa n := by
  obtain ⟨h1, h2⟩ := h
  refine ⟨h1, ?_⟩
  rcases h2 with h2 | ⟨b, off, e, hb, hc⟩
  · exact .inl h2
  · refine .inr ⟨b, off, e, hb, fun i hi => ?_⟩
    obtain ⟨z, hz, hcz⟩ := hc i hi
    exact ⟨z, hz, (World.cell?_of_block (w := w) (hk b hb)).trans hcz⟩

theorem Rdr.keep {w w' : World} {bk p : Nat} (h : Rdr w bk p) (hk : ∀ k, k ≤ bk → w'.heap[k]? = w.heap[k]?) (hs : w.heap.size ≤ w'.heap.size) : Rdr w' bk p := by
  obtain ⟨sa, n, cap, h1, h2, h3, h4, h5⟩ := h
  have hb := hk bk (Nat.le_refl _)
  exact ⟨sa, n, cap, (World.cell?_of_block (w := w) hb).trans h1, (World.cell?_of_block (w := w) hb).trans h2, (World.frozen?_of_block (w := w) hb).trans h3, by omega, h5.keep fun k hk' => hk k (by omega)⟩

theorem Rdr.below {w w' : World} {bk p B : Nat} (h : Rdr w bk p) (hb : Below B w w') (hB : bk < B) : Rdr w' bk p :=
  h.keep (fun k hk => hb.block k (by omega)) hb.size


theorem rdr_new (w : World) (sa : Option Addr) (n cap : Nat) (T : TypeId) (h : Bytes w w.heap.size sa n) :
    Rdr (w.alloc (Obj.cells #[Value.slice sa n cap, Value.int .i64 0] T)) w.heap.size 0 := by
  refine ⟨sa, n, cap, by simp [go_sem], by simp [go_sem], by simp [go_sem], by simp, h.keep fun k hk => ?_⟩
  exact Below.heap_alloc _ _ _ hk

theorem open_c (w : World) (a : Option Addr) (len cap : Nat) (zs : List Int) (h : IsRow .u8 w a len cap zs) :
    Calls Try.prog 45 #[.slice a len cap] w fun e w' => ∃ bk, e = .returned (.pointer (some ⟨bk, 0, none⟩)) ∧ w.heap.size ≤ bk ∧ bk < w'.heap.size ∧ Rdr w' bk 0 ∧ Below w.heap.size w w' := by
  rcases h with ⟨rfl, rfl, rfl, rfl⟩ | ⟨x, rfl, hl, hm, hz, hcell, hwz⟩
  · go_enter Try.func45, Try.ntmps45
    go_wp2
    go_ret
    exact ⟨_, rfl, Nat.le_refl _, by simp, rdr_new _ _ _ _ _ ⟨by omega, .inl rfl⟩, (Below.refl _ _).alloc (Nat.le_refl _) _⟩
  · have hb : ∀ n, n ≤ 2000 → n ≤ len → Bytes w w.heap.size (some x) n := by
      intro n hn hnl
      refine ⟨hn, ?_⟩
      by_cases h0 : n = 0
      · exact .inl h0
      · obtain ⟨b, off, spot⟩ := x
        have hc := hcell 0 (by omega)
        have hspot : spot = none := by simpa [Addr.add] using World.cell?_spot hc
        subst hspot
        refine .inr ⟨b, off, rfl, by simpa [Addr.add] using World.block_lt_of_cell? _ _ hc, fun i hi => ?_⟩
        refine ⟨zs.getD i 0, ?_, ?_⟩
        rotate_left
        · have hci := hcell i (by omega)
          by_cases hi0 : i = 0
          · subst hi0; simpa [Addr.add] using hci
          · simpa [Addr.add, hi0] using hci
        have hmem : zs.getD i 0 ∈ zs := by
          rw [List.getD_eq_getElem?_getD, List.getElem?_eq_getElem (show i < zs.length by omega)]
          exact List.getElem_mem _
        have := hwz _ hmem
        simpa [Lit.wf, IntKind.min, IntKind.max, IntKind.signed, IntKind.bits] using this
    unfold maxLen at hm
    by_cases hlen : 2000 < len
    · have hi : (2000 : Int) < (len : Int) := by omega
      have H := Lib.hid hb; clear hb hcell hwz hz
      go_enter Try.func45, Try.ntmps45
      go_wp2
      go_ret
      exact ⟨_, rfl, Nat.le_refl _, by simp, rdr_new _ _ _ _ _ (H.out 2000 (by omega) (by omega)), (Below.refl _ _).alloc (Nat.le_refl _) _⟩
    · have hi : ¬ (2000 : Int) < (len : Int) := by omega
      have H := Lib.hid hb; clear hb hcell hwz hz
      go_enter Try.func45, Try.ntmps45
      go_wp2
      go_ret
      exact ⟨_, rfl, Nat.le_refl _, by simp, rdr_new _ _ _ _ _ (H.out len (by omega) (by omega)), (Below.refl _ _).alloc (Nat.le_refl _) _⟩

theorem xor_nonneg (a b : Int) (h1 : 0 ≤ a) (h2 : a < 1000000000000) (h3 : 0 ≤ b) (h4 : b < 1000000000000) : 0 ≤ bits .xor .i64 a b := by
  obtain ⟨A, rfl⟩ := Int.eq_ofNat_of_zero_le h1
  obtain ⟨B, rfl⟩ := Int.eq_ofNat_of_zero_le h3
  have hx : A ^^^ B < 2 ^ 62 := Nat.xor_lt_two_pow (by omega) (by omega)
  have e1 : (BitVec.ofInt 64 (A : Int)).toNat = A := by rw [BitVec.ofInt_natCast, BitVec.toNat_ofNat]; exact Nat.mod_eq_of_lt (by omega)
  have e2 : (BitVec.ofInt 64 (B : Int)).toNat = B := by rw [BitVec.ofInt_natCast, BitVec.toNat_ofNat]; exact Nat.mod_eq_of_lt (by omega)
  show 0 ≤ IntKind.i64.wrap ((BitVec.ofInt 64 (A : Int) ^^^ BitVec.ofInt 64 (B : Int)).toNat : Int)
  rw [BitVec.toNat_xor, e1, e2, IntWalk.i64_in _ (by omega)]
  omega

/-- Only block bk may have turned; no new block. -/
structure Only (bk : Nat) (w w' : World) : Prop where
  os : w'.os = w.os
  tape : w'.tape = w.tape
  output : w'.output = w.output
  size : w'.heap.size = w.heap.size
  block : ∀ k, k ≠ bk → w'.heap[k]? = w.heap[k]?

theorem Only.below {bk B : Nat} {w w' : World} (h : Only bk w w') (hB : B ≤ bk) : Below B w w' :=
  ⟨h.os, h.tape, h.output, by rw [h.size]; exact Nat.le_refl _, fun k hk => h.block k (by omega)⟩
theorem only_set (w : World) (bk o : Nat) (v : Value) : Only bk w (w.setCell ⟨bk, o, none⟩ v) :=
  ⟨rfl, rfl, rfl, by simp [World.setCell], fun k hk => Below.heap_setCell _ _ _ _ hk⟩
theorem Only.drewN {bk : Nat} {w w' : World} (h : Only bk w w') (n : Nat) : Only bk w (w'.drewN n) := ⟨h.os, h.tape, h.output, h.size, h.block⟩
theorem rdr_set (w : World) (bk p : Nat) (h : Rdr w bk p) : Rdr (w.setCell ⟨bk, 1, none⟩ (.int .i64 ((p : Int) + 1))) bk (p + 1) := by
  obtain ⟨sa, n, cap, h1, h2, h3, h4, h5⟩ := h
  have hk : ∀ k, k < bk → (w.setCell ⟨bk, 1, none⟩ (.int .i64 ((p : Int) + 1))).heap[k]? = w.heap[k]? := fun k hk => Below.heap_setCell _ _ _ _ (by simp; omega)
  refine ⟨sa, n, cap, ?_, ?_, ?_, by simpa [World.setCell] using h4, h5.keep hk⟩
  · simp [go_sem, h1]
  · simp [go_sem, h2]
  · simp [go_sem, h3]

/-- Of what was there only block bk may have turned. -/
structure Lo (bk : Nat) (w w' : World) : Prop where
  os : w'.os = w.os
  tape : w'.tape = w.tape
  output : w'.output = w.output
  size : w.heap.size ≤ w'.heap.size
  block : ∀ k, k < w.heap.size → k ≠ bk → w'.heap[k]? = w.heap[k]?

theorem Only.lo {bk : Nat} {w w' : World} (h : Only bk w w') : Lo bk w w' := ⟨h.os, h.tape, h.output, by rw [h.size]; exact Nat.le_refl _, fun k _ hk => h.block k hk⟩
theorem Lo.refl (bk : Nat) (w : World) : Lo bk w w := ⟨rfl, rfl, rfl, Nat.le_refl _, fun _ _ _ => rfl⟩
theorem Lo.trans {bk : Nat} {a b c : World} (h : Lo bk a b) (k : Lo bk b c) : Lo bk a c :=
  ⟨k.os.trans h.os, k.tape.trans h.tape, k.output.trans h.output, Nat.le_trans h.size k.size, fun i hi hb => (k.block i (Nat.lt_of_lt_of_le hi h.size) hb).trans (h.block i hi hb)⟩
theorem Lo.alloc {bk : Nat} {a w : World} (h : Lo bk a w) (o : Obj) : Lo bk a (w.alloc o) :=
  h.trans ⟨rfl, rfl, rfl, by simp, fun k hk _ => Below.heap_alloc _ _ _ hk⟩
theorem Lo.drewN {bk : Nat} {a w : World} (h : Lo bk a w) (n : Nat) : Lo bk a (w.drewN n) := ⟨h.os, h.tape, h.output, h.size, h.block⟩
theorem Lo.drew {bk : Nat} {a w : World} (h : Lo bk a w) : Lo bk a w.drew := ⟨h.os, h.tape, h.output, h.size, h.block⟩
theorem Lo.of_below {bk : Nat} {w w' : World} (h : Below w.heap.size w w') : Lo bk w w' := ⟨h.os, h.tape, h.output, h.size, fun k hk _ => h.block k hk⟩
/-- A block of the call's own, behind what was there. -/
theorem Lo.below {bk : Nat} {w w' : World} (h : Lo bk w w') (hb : w.heap.size ≤ bk) : Below w.heap.size w w' := ⟨h.os, h.tape, h.output, h.size, fun k hk => h.block k hk (by omega)⟩
theorem Lo.cell {bk : Nat} {w w' : World} (h : Lo bk w w') {b o : Nat} (hb : b < w.heap.size) (hk : b ≠ bk) : w'.cell? ⟨b, o, none⟩ = w.cell? ⟨b, o, none⟩ := World.cell?_of_block (w := w) (h.block b hb hk)
theorem Lo.frozen {bk : Nat} {w w' : World} (h : Lo bk w w') {b o : Nat} (hb : b < w.heap.size) (hk : b ≠ bk) : w'.frozen? ⟨b, o, none⟩ = w.frozen? ⟨b, o, none⟩ := World.frozen?_of_block (w := w) (h.block b hb hk)

/-- A number is picked. -/
def Picked (m : Int) (bk p : Nat) (w : World) (e : Ending) (w' : World) : Prop :=
  ∃ r : Nat, e = .returned (.int .i64 (r : Int)) ∧ (r : Int) < m ∧ Rdr w' bk (p + 1) ∧ Only bk w w'


theorem picked_of {m : Int} {bk p : Nat} {w w' : World} {e : Ending} (r : Int) (he : e = .returned (.int .i64 r)) (h0 : 0 ≤ r) (h1 : r < m) (hr : Rdr w' bk (p + 1)) (ho : Only bk w w') : Picked m bk p w e w' := by
  obtain ⟨R, rfl⟩ := Int.eq_ofNat_of_zero_le h0
  exact ⟨R, he, h1, hr, ho⟩

theorem pick_c (m : Int) (bk p : Nat) (w : World) (h : Rdr w bk p) (hm : 1 ≤ m) (hp : p ≤ 1000000) :
    Calls Try.prog 47 #[.pointer (some ⟨bk, 0, none⟩), .int .i64 m] w (Picked m bk p w) := by
  have hs := rdr_set w bk p h
  obtain ⟨sa, n, cap, h1, h2, h3, h4, hn, h5⟩ := h
  have hm' : ¬ m < 1 := by omega
  have HS := Lib.hid hs; clear hs
  rcases h5 with rfl | ⟨b, off, rfl, hb, hc⟩
  · go_enter Try.func47, Try.ntmps47
    go_wp2
    go_ret
    exact ⟨0, rfl, by omega, HS.out, only_set _ _ _ _⟩
  · by_cases hn0 : n = 0
    · subst hn0
      clear hc
      go_enter Try.func47, Try.ntmps47
      go_wp2
      go_ret
      exact ⟨0, rfl, by omega, HS.out, only_set _ _ _ _⟩
    · have hne : ((n : Int) == 0) = false := by simp; omega
      by_cases hpn : p < n
      · have hpi : (p : Int) < (n : Int) := by omega
        obtain ⟨z, ⟨hz0, hz1⟩, hcz⟩ := hc p hpn
        clear hc
        go_enter Try.func47, Try.ntmps47
        go_wp2
        go_ret
        exact picked_of _ rfl (Int.emod_nonneg _ (by omega)) (Int.emod_lt_of_pos _ (by omega)) HS.out (only_set _ _ _ _)
      · have hpi : ¬ (p : Int) < (n : Int) := by omega
        have hn1 : 1 ≤ (n : Int) := by omega
        obtain ⟨z1, ⟨hz10, hz11⟩, hcz1⟩ := hc (p % n) (Nat.mod_lt _ (by omega))
        obtain ⟨z2, ⟨hz20, hz21⟩, hcz2⟩ := hc ((p * 7 + 3) % n) (Nat.mod_lt _ (by omega))
        have i1 : (p : Int) % (n : Int) < n := Int.emod_lt_of_pos _ (by omega)
        have i1' : 0 ≤ (p : Int) % (n : Int) := Int.emod_nonneg _ (by omega)
        have i2 : ((p : Int) * 7 + 3) % (n : Int) < n := Int.emod_lt_of_pos _ (by omega)
        have i2' : 0 ≤ ((p : Int) * 7 + 3) % (n : Int) := Int.emod_nonneg _ (by omega)
        have q1 : 0 ≤ (p : Int) / n := Int.ediv_nonneg (by omega) (by omega)
        have q2 : (p : Int) / n ≤ p := Int.ediv_le_self _ (by omega)
        clear hc
        go_enter Try.func47, Try.ntmps47
        go_wp2
        go_quiet (fail)
        go_wp2
        go_ret
        refine picked_of _ rfl (Int.tmod_nonneg _ (xor_nonneg _ _ ?_ ?_ ?_ ?_)) (Int.tmod_lt_of_pos _ (by omega)) ?_ ((only_set _ _ _ _).drewN _)
        · omega
        · omega
        · omega
        · omega
        · exact HS.out.keep (fun k _ => rfl) (Nat.le_refl _)

/-- A cell of a block of integers that was just laid. -/
theorem cell_ints (w : World) (l : List Int) (T : TypeId) (k : Nat) (h : k < l.length) :
    (w.alloc (Obj.cells (l.map (Value.int .i64)).toArray T)).cell? ⟨w.heap.size, k, none⟩ = some (.int .i64 (l.getD k 0)) := by
  simp [go_sem, h]


/-- The number that a pick chooses out of a list that was just laid. -/
theorem cell_pick (l : List Int) (lo hi : Int) (w w' : World) (bk : Nat) (T : TypeId) (k : Nat) (h : k < l.length) (hl : ∀ x ∈ l, lo ≤ x ∧ x ≤ hi) (hb : bk < w.heap.size)
    (ho : Lo bk (w.alloc (Obj.cells (l.map (Value.int .i64)).toArray T)) w') : ∃ v : Int, (lo ≤ v ∧ v ≤ hi) ∧ w'.cell? ⟨w.heap.size, k, none⟩ = some (.int .i64 v) := by
  refine ⟨l.getD k 0, hl _ ?_, ?_⟩
  · rw [List.getD_eq_getElem?_getD, List.getElem?_eq_getElem h]
    exact List.getElem_mem _
  · rw [← cell_ints w l T k h]
    exact World.cell?_of_block (w := w.alloc _) (ho.block _ (by simp) (by simp; omega))

/-- Since world a the reader at bk has been picked from, p times in all. -/
def RS (a : World) (bk p : Nat) (w : World) : Prop := Rdr w bk p ∧ Lo bk a w

theorem Rdr.lt {w : World} {bk p : Nat} (h : Rdr w bk p) : bk < w.heap.size := by
  obtain ⟨sa, n, cap, h1, h2, h3, h4, h5⟩ := h
  exact h4
theorem RS.lt {a w : World} {bk p : Nat} (h : RS a bk p w) : bk < w.heap.size := h.1.lt
theorem RS.alloc {a w : World} {bk p : Nat} (h : RS a bk p w) (o : Obj) : RS a bk p (w.alloc o) :=
  ⟨h.1.below (Below.alloc (Below.refl w.heap.size w) (Nat.le_refl _) o) h.lt, h.2.alloc o⟩
theorem RS.of {a w w' : World} {bk p : Nat} (h : RS a bk p w) (hb : Below w.heap.size w w') : RS a bk p w' :=
  ⟨h.1.below hb h.lt, h.2.trans (Lo.of_below hb)⟩
theorem RS.drewN {a w : World} {bk p : Nat} (h : RS a bk p w) (n : Nat) : RS a bk p (w.drewN n) := ⟨h.1.keep (fun _ _ => rfl) (Nat.le_refl _), h.2.drewN n⟩
theorem RS.drew {a w : World} {bk p : Nat} (h : RS a bk p w) : RS a bk p w.drew := ⟨h.1.keep (fun _ _ => rfl) (Nat.le_refl _), h.2.drew⟩
theorem RS.trans {a w w' : World} {bk p q : Nat} (h : RS a bk p w) (k : RS w bk q w') : RS a bk q w' := ⟨k.1, h.2.trans k.2⟩

theorem pick_s {a w : World} {bk p : Nat} {m : Int} (h : RS a bk p w) (hm : 1 ≤ m) (hp : p ≤ 1000000) :
    Calls Try.prog 47 #[.pointer (some ⟨bk, 0, none⟩), .int .i64 m] w fun e w' =>
      ∃ r : Nat, e = .returned (.int .i64 (r : Int)) ∧ (r : Int) < m ∧ RS a bk (p + 1) w' ∧ Lo bk w w' :=
  (pick_c m bk p w h.1 hm hp).mono fun e w' ⟨r, he, hr, hd, ho⟩ => ⟨r, he, hr, ⟨hd, h.2.trans ho.lo⟩, ho.lo⟩

theorem open_s (w : World) (a : Option Addr) (len cap : Nat) (zs : List Int) (h : IsRow .u8 w a len cap zs) :
    Calls Try.prog 45 #[.slice a len cap] w fun e w' => ∃ bk, e = .returned (.pointer (some ⟨bk, 0, none⟩)) ∧ w.heap.size ≤ bk ∧ RS w bk 0 w' :=
  (open_c w a len cap zs h).mono fun e w' ⟨bk, he, h1, h2, h3, h4⟩ => ⟨bk, he, h1, h3, Lo.of_below h4⟩

/-- Behind a call that makes memory: what was there reads as before. -/
theorem bcell {W w1 : World} (hb : Below W.heap.size W w1) : (∀ b o, b < W.heap.size → w1.cell? ⟨b, o, none⟩ = W.cell? ⟨b, o, none⟩) ∧ (∀ b o, b < W.heap.size → w1.frozen? ⟨b, o, none⟩ = W.frozen? ⟨b, o, none⟩) :=
  ⟨fun b o h => hb.cell (p := ⟨b, o, none⟩) h, fun b o h => hb.frozen (p := ⟨b, o, none⟩) h⟩

/-- A chain of worlds: what stands below the first one's end stays. -/
theorem bstep {a w w' : World} (h : Below a.heap.size a w) (k : Below w.heap.size w w') : Below a.heap.size a w' := h.trans (k.mono h.size)
theorem bpush {a w : World} (h : Below a.heap.size a w) (o : Obj) : Below a.heap.size a (w.alloc o) := h.alloc h.size o

/-- A block of cells, whole. -/
def Blk (w : World) (b : Nat) (cs : Array Value) (T : TypeId) : Prop := w.heap[b]? = some (.cells cs T (0, 0))
theorem Blk.cell {w : World} {b : Nat} {cs : Array Value} {T : TypeId} (h : Blk w b cs T) (k : Nat) {v : Value} (hk : cs[k]? = some v) : w.cell? ⟨b, k, none⟩ = some v := by
  unfold Blk at h
  simp [World.cell?, h, hk]
theorem Blk.free {w : World} {b : Nat} {cs : Array Value} {T : TypeId} (h : Blk w b cs T) (k : Nat) : w.frozen? ⟨b, k, none⟩ = false := by
  unfold Blk at h
  simp [World.frozen?, h]
theorem Blk.lt {w : World} {b : Nat} {cs : Array Value} {T : TypeId} (h : Blk w b cs T) : b < w.heap.size := by
  unfold Blk at h
  exact (Array.getElem?_eq_some_iff.1 h).1
theorem Blk.new (w : World) (cs : Array Value) (T : TypeId) : Blk (w.alloc (.cells cs T)) w.heap.size cs T := (MapKept.heap_alloc w _).1
theorem Blk.lo {w w' : World} {b bk : Nat} {cs : Array Value} {T : TypeId} (h : Blk w b cs T) (hl : Lo bk w w') (hb : b ≠ bk) : Blk w' b cs T := (hl.block b h.lt hb).trans h
theorem Blk.below {w w' : World} {b : Nat} {cs : Array Value} {T : TypeId} (h : Blk w b cs T) (hl : Below w.heap.size w w') : Blk w' b cs T := (hl.block b h.lt).trans h
theorem Blk.alloc {w : World} {b : Nat} {cs : Array Value} {T : TypeId} (h : Blk w b cs T) (o : Obj) : Blk (w.alloc o) b cs T := (Below.heap_alloc w o b h.lt).trans h
theorem Blk.drew {w : World} {b : Nat} {cs : Array Value} {T : TypeId} (h : Blk w b cs T) : Blk w.drew b cs T := h
theorem Blk.drewN {w : World} {b : Nat} {cs : Array Value} {T : TypeId} (h : Blk w b cs T) (n : Nat) : Blk (w.drewN n) b cs T := h

end Go.Proofs.Ytjlaikmilcgmhaa
