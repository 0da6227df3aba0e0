/-
  A walk's goal with its world under a name, what is known of it kept (no program in sight).
-/
import Derived.Test.YtbmdepbmejnlkaaDoorBase
namespace Go.Proofs.YtbmdepbmejnlkaaDoor
theorem post_hide {K : Exit → Act → World → Prop} {e : Exit} {a : Act} {W : World} (Q : World → Prop) (hQ : Q W) (h : ∀ W', Q W' → K e a W') : K e a W := h W hQ
theorem wp_hide {P : Program} {c : Code} {K : Exit → Act → World → Prop} {a : Act} {W : World} (Q : World → Prop) (hQ : Q W) (h : ∀ W', Q W' → Code.wp P c K a W') : Code.wp P c K a W := h W hQ
end Go.Proofs.YtbmdepbmejnlkaaDoor
