/- What stands in a world stands in one that has only grown: blocks, rows, and all that lies below. -/
import Derived.Test.YtdnkjfcndjmdbaaDoorWWords
namespace Go.Proofs.YtdnkjfcndjmdbaaDoor.G
open Go.RowKit Go.Proofs.YtdnkjfcndjmdbaaDoorW.PrintWords
/-- W is w, grown: places made, draws taken. -/
class Up (w W : World) : Prop where
  b : Below w.heap.size w W
instance Up.refl_ (w : World) : Up w w := ⟨Below.refl _ _⟩
instance Up.alloc_ (w W : World) (o : Obj) [Up w W] : Up w (W.alloc o) := ⟨below_alloc Up.b o⟩
instance Up.drew_ (w W : World) [Up w W] : Up w W.drew := ⟨below_drew1 Up.b⟩
instance Up.drewN_ (w W : World) (n : Nat) [Up w W] : Up w (W.drewN n) := ⟨pw_below_drewN Up.b n⟩
section
variable {w W w1 : World} {g gb : Nat} {o : Obj}
theorem bE (h : w.heap[g]? = some o) [Up w W] : W.heap[g]? = some o := blk_below h Up.b
theorem aB (h : Aside0 (w.heap[g]? = some o)) (hb : Below W.heap.size W w1) [Up w W] : Aside0 (w1.heap[g]? = some o) := ⟨blk_below (bE h.out) hb⟩
theorem aN (h : Aside0 (w.heap[g]? = some o)) (hg : gb = W.heap.size) [Up w W] : Aside0 (g ≠ gb) := ⟨by rw [hg]; exact Nat.ne_of_lt (blk_lt (w := W) (bE h.out))⟩
theorem aM (h : Aside0 (w.heap[g]? = some o)) (hg : gb = W.heap.size) [Up w W] : Aside0 (gb ≠ g) := ⟨(aN h hg).out.symm⟩
theorem hE {w0 : World} (h : Below w0.heap.size w0 w) [Up w W] : Below w0.heap.size w0 W := below_step h Up.b
theorem aH {w0 : World} (h : Aside0 (Below w0.heap.size w0 w)) (hb : Below W.heap.size W w1) [Up w W] : Aside0 (Below w0.heap.size w0 w1) := ⟨below_step (hE h.out) hb⟩
theorem aG {w0 : World} (h : Aside0 (Below w0.heap.size w0 w)) (hg : gb = W.heap.size) [Up w W] : Aside0 (w0.heap.size ≤ gb) := ⟨by rw [hg]; exact below_size (hE h.out)⟩
theorem rE {α : Type} {d : Kd α} {e base : Nat} {ok : Nat → Prop} {v : Value} {xs : List α} (h : d.R e w base ok v xs) [Up w W] : d.R e W base ok v xs := Kd.R_below h Up.b
theorem aR {α : Type} {d : Kd α} {e base : Nat} {ok : Nat → Prop} {v : Value} {xs : List α} (h : Aside0 (d.R e w base ok v xs)) (hb : Below W.heap.size W w1) [Up w W] : Aside0 (d.R e w1 base ok v xs) := ⟨Kd.R_below (rE h.out) hb⟩
end
end Go.Proofs.YtdnkjfcndjmdbaaDoor.G
