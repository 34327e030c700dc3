/- Draws of a ticket. -/
import Derived.Test.YtjlaikmilcgmhaaGs
import Derived.Test.YtjlaikmilcgmhaaTm
namespace Go.Proofs.Ytjlaikmilcgmhaa
open Go.RowKit
set_option linter.unusedVariables false
attribute [local go_sem ↓] Go.wp_at_zero Go.wp_at_succ

theorem tkd_r (now : Int) {w : World} {bk p : Nat} (h : Rdr w bk p) (hp : p ≤ 900000) (h1 : -1000000 ≤ now) (h2 : now ≤ 1000000) :
    Calls Try.prog 54 #[.pointer (some ⟨bk, 0, none⟩), .int .i64 now] w fun e w' => ∃ t : Int × Int, e = .returned (.agg #[.int .i64 t.1, .int .i64 t.2]) ∧ RS w bk (p + 3) w' := by
  have hS0 : RS w bk p w := ⟨h, Lo.refl _ _⟩
  have q0 := h.lt
  clear h
  have B0 := Blk.new w #[.int .i64 0, .int .i64 0] 30
  go_enter Try.func54, Try.ntmps54
  go_wp2_with fail
  refine (pick_s (hS0.alloc _) (by omega) (by omega)).mono ?_
  rintro e w1 ⟨r1, rfl, hr1, hS1, hl1⟩
  have B1 := B0.lo hl1 (by omega)
  clear hS0 B0
  go_wp2_with fail
  refine (pick_s hS1 (by omega) (by omega)).mono ?_
  rintro e w2 ⟨r2, rfl, hr2, hS2, hl2⟩
  have B2 := B1.lo hl2 (by omega)
  clear hS1 B1
  go_wp2_with fail
  refine (pick_s hS2 (by omega) (by omega)).mono ?_
  rintro e w3 ⟨r3, rfl, hr3, hS3, hl3⟩
  have B3 := B2.lo hl3 (by omega)
  have c0 := B3.cell 0 rfl
  have c1 := B3.cell 1 rfl
  have f0 := B3.free 0
  have f1 := B3.free 1
  clear hS2 B2 B3 hl1 hl2 hl3
  go_wp2_with fail
  refine bodyPost_ret (v := .agg #[.int .i64 (r1 : Int), .int .i64 (now - (r2 : Int) + (r3 : Int))]) ?_ rfl ⟨(_, _), rfl, ?_⟩
  · simp only [results, Try.results54]
    go_simp
  · exact (hS3.set (Nat.le_refl _) q0 0 _).set (Nat.le_refl _) q0 1 _
theorem tkd_s (now : Int) {a w : World} {bk p : Nat} (h : RS a bk p w) (hp : p ≤ 900000) (h1 : -1000000 ≤ now) (h2 : now ≤ 1000000) :
    Calls Try.prog 54 #[.pointer (some ⟨bk, 0, none⟩), .int .i64 now] w fun e w' => ∃ t : Int × Int, e = .returned (.agg #[.int .i64 t.1, .int .i64 t.2]) ∧ RS a bk (p + 3) w' ∧ Lo bk w w' :=
  (tkd_r now h.1 hp h1 h2).mono fun e w' ⟨t, he, hS⟩ => ⟨t, he, h.trans hS, hS.2⟩
theorem row_lo {w w' : World} {base k n bk : Nat} {e : TypeId} {v : Value} {xs : List Value} (h : w.ownsRow base e k v n xs) (hl : Lo bk w w') (hb : bk < base) : w'.ownsRow base e k v n xs := by
  obtain ⟨hl', h | ⟨g, cap, cur, h, hg, hc, h'⟩⟩ := h
  · exact ⟨hl', .inl h⟩
  · exact ⟨hl', .inr ⟨g, cap, cur, h, hg, (hl.block g (Blk.lt hc) (by omega)).trans hc, h'⟩⟩
theorem row_sl {w : World} {base n cap : Nat} {a : Option Addr} {l : TL} (h : w.ownsRow base 30 2 (.slice a n cap) n (flat l)) (hl : l.length = n) (hn : n ≤ 1048576) : Sl 2 w w.heap.size a n (tkG l) :=
  (ow_of_row h (by omega) (fun i hi j hj => flat_at l i (by omega) j hj)).sl
end Go.Proofs.Ytjlaikmilcgmhaa
