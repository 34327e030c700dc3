/- A region that draws its order, whose operations read what stood there and whose callees may make memory: one walk, in the order of the text. -/
import Derived.Test.YtjlaikmilcgmhaaSl
import Derived.Deep.QuietTactic
import Derived.BigQuiet
namespace Go.Proofs.Ytjlaikmilcgmhaa
open Go.RowKit
set_option linter.unusedVariables false

/-- A world that goes on from w: what stood there stands. -/
structure Ext (w : World) where
  out : World
  ok : Below w.heap.size w out
instance extNonempty (w : World) : Nonempty (Ext w) := ⟨⟨w, Below.refl _ _⟩⟩
theorem wp_region_ext {P : Program} {id : Nat} {Q : Exit → Act → World → Prop} {a : Act} {w : World} {l : List Oper} (hm : P.follows .mixedOrders = true) (hB : Region.lexB .any l.toArray = true)
    (h : wpQuiet P l.toArray (fun w' => ∃ x : Ext w, w' = x.out) (fun a' => ∀ w', (∃ x : Ext w, w' = x.out) → Q .normal a' w') l a) : (Code.region id l.toArray true).wp P Q a w :=
  wp_region_quiet (C := fun w' => ∃ x : Ext w, w' = x.out) hm hB ⟨⟨w.drew, bdrew (Below.refl _ _)⟩, rfl⟩ (by simpa using h)
theorem ext_of {P : Program} {f : FuncId} {args : Array Value} {w : World} {x : Ext w} {v : Value} (h : Calls P f args x.out fun e w' => e = .returned v ∧ Below x.out.heap.size x.out w') :
    Calls P f args x.out fun e w'' => e = .returned v ∧ ∃ y : Ext w, w'' = y.out :=
  h.mono fun e w' ⟨he, hb⟩ => ⟨he, ⟨w', x.ok.trans (hb.mono x.ok.size)⟩, rfl⟩
theorem ext_same {P : Program} {f : FuncId} {args : Array Value} {w : World} {x : Ext w} {v : Value} (h : Calls P f args x.out fun e w' => e = .returned v ∧ x.out = w') :
    Calls P f args x.out fun e w'' => e = .returned v ∧ ∃ y : Ext w, w'' = y.out :=
  h.mono fun e w' ⟨he, hb⟩ => ⟨he, x, hb.symm⟩
theorem Blk.ext {w : World} {b : Nat} {cs : Array Value} {T : TypeId} (h : Blk w b cs T) (k : Nat) {v : Value} (hk : cs[k]? = some v) : ∀ x : Ext w, x.out.cell? ⟨b, k, none⟩ = some v :=
  fun x => (h.below x.ok).cell k hk
theorem ext_cell {w : World} {b o : Nat} {v : Value} (h : w.cell? ⟨b, o, none⟩ = some v) (hb : b < w.heap.size) : ∀ x : Ext w, x.out.cell? ⟨b, o, none⟩ = some v :=
  fun x => (x.ok.cell (p := ⟨b, o, none⟩) hb).trans h
end Go.Proofs.Ytjlaikmilcgmhaa
