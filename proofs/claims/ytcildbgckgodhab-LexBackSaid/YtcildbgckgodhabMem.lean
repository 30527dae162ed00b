/- Small laws on worlds: cells behind stores, as one rule for simp. -/
import Derived.WalkKit
import Derived.Below
namespace Go.Proofs.Ytcildbgckgodhab
open Go.RowKit
theorem cell_set (w : World) (p q : Addr) (v : Value) : (w.setCell p v).cell? q = if p = q then (w.cell? q).map (fun _ => v) else w.cell? q := by
  by_cases h : p = q
  · subst h
    rw [if_pos rfl]
    cases hc : w.cell? p with
    | some u => rw [World.cell?_setCell_same w p v hc]; rfl
    | none =>
      simp only [World.cell?, World.setCell, Array.getElem?_modify] at hc ⊢
      simp only [if_true]
      cases hb : w.heap[p.block]? with
      | none => simp
      | some o =>
        rw [hb] at hc
        cases o <;> simp_all
  · rw [if_neg h, World.cell?_setCell_other w p q v h]
theorem wp_at {P : Program} {Q : Exit → Act → World → Prop} {a : Act} {w : World} {c : Code} (R : World → Prop) (h : R w) (k : ∀ w, R w → c.wp P Q a w) : c.wp P Q a w := k w h
end Go.Proofs.Ytcildbgckgodhab
