/- A region whose order is open, the ways of which meet behind it. No statement about the program stands here. -/
import Derived.Test.YtokoohdpakhphaaDoorTree
import Derived.Test.YtokoohdpakhphaaDoorVcOps
namespace Go.Proofs.YtokoohdpakhphaaDoor.VC
open Go Go.RowKit
theorem draw_join {P : Program} {N id : Nat} {l : List Oper} {k : Env → World → Prop} {X : Ex} {e : Env} {w : World} {σ : Type} (L : List Nat) (enc : σ → List Value) (K : List Nat) (I : σ → World → Prop)
    (h1 : DrawP P N id l.toArray (Meet L enc K (K.map e) I) X e w) (h2 : ∀ (b : Env) s w', I s w' → k (upds (upds b K (K.map e)) L (enc s)) w') : DrawP P N id l.toArray k X e w := by
  have h3 : vc P N (.region id l.toArray true) (Meet L enc K (K.map e) I) X e w := by rw [vc_draw]; exact h1
  have h4 := vc_join (k := k) L enc K I h3 h2
  rw [vc_draw] at h4
  exact h4
end Go.Proofs.YtokoohdpakhphaaDoor.VC
