/- A pool as it stands in a caller: since the caller's world w0 nothing below B has turned. -/
import Derived.Test.YtjabofofofddbaaPoolC
namespace Go.Proofs.Ytjabofofofddbaa
open Go.RowKit

structure PoolOwn {α : Type} (B : Nat) (w0 w : World) (T TP TI sz : Nat) (enc : α → List Value) (p : Nat) (lv fv : Value) (s : PSt α) : Prop where
  is : PoolIs w T TP TI sz enc p lv fv s
  lo : ∀ x, x ∈ poolFp p lv fv → B ≤ x
  be : Below B w0 w
  hs : B ≤ w0.heap.size

section
variable {α : Type} {B : Nat} {w0 w w' : World} {T TP TI sz p : Nat} {enc : α → List Value} {lv fv lv' fv' : Value} {s s' : PSt α}
theorem PoolOwn.new (h : PoolIs w' T TP TI sz enc p (.slice none 0 0) (.slice none 0 0) s) (hp : w.heap.size ≤ p) (hb : Below w.heap.size w w') (be : Below B w0 w) (hs : B ≤ w0.heap.size) : PoolOwn B w0 w' T TP TI sz enc p (.slice none 0 0) (.slice none 0 0) s :=
  ⟨h, fun x hx => by
    have h1 := be.size
    rcases mem_poolFp.1 hx with rfl | hx | hx
    · omega
    · simp [Value.ownBlock] at hx
    · simp [Value.ownBlock] at hx, be.trans (hb.mono (Nat.le_trans hs be.size)), hs⟩
theorem PoolOwn.step (h : PoolOwn B w0 w T TP TI sz enc p lv fv s) (h2 : PoolIs w' T TP TI sz enc p lv' fv' s') (hc : Chg (poolFp p lv fv) w w') (hf : Fresh (poolFp p lv fv) (poolFp p lv' fv') w) : PoolOwn B w0 w' T TP TI sz enc p lv' fv' s' :=
  ⟨h2, fun x hx => by
    have h1 := h.be.size
    have h3 := h.hs
    rcases hf x hx with hx | hx
    · exact h.lo x hx
    · omega, h.be.trans (hc.below h.lo (Nat.le_trans h.hs h.be.size)), h.hs⟩
theorem PoolOwn.later (h : PoolOwn B w0 w T TP TI sz enc p lv fv s) (hb : Below w.heap.size w w') : PoolOwn B w0 w' T TP TI sz enc p lv fv s :=
  ⟨h.is.later hb, h.lo, h.be.trans (hb.mono (Nat.le_trans h.hs h.be.size)), h.hs⟩
theorem PoolOwn.drewN (h : PoolOwn B w0 w T TP TI sz enc p lv fv s) (k : Nat) : PoolOwn B w0 (w.drewN k) T TP TI sz enc p lv fv s := ⟨h.is.drewN k, h.lo, below_drewN h.be k, h.hs⟩
theorem PoolOwn.alloc (h : PoolOwn B w0 w T TP TI sz enc p lv fv s) (o : Obj) : PoolOwn B w0 (w.alloc o) T TP TI sz enc p lv fv s := h.later ((Below.refl _ _).alloc (Nat.le_refl _) _)
/-- Other blocks, new since w0 and none of the pool's, turn. -/
theorem PoolOwn.chg {fp : List Nat} (h : PoolOwn B w0 w T TP TI sz enc p lv fv s) (hc : Chg fp w w') (ha : Apart (poolFp p lv fv) fp) (hB : ∀ x, x ∈ fp → B ≤ x) : PoolOwn B w0 w' T TP TI sz enc p lv fv s :=
  ⟨h.is.chg hc ha, h.lo, h.be.trans (hc.below hB (Nat.le_trans h.hs h.be.size)), h.hs⟩
theorem PoolIs.ne_blk {g : Nat} {t : TypeId} {cs : Array Value} (h : PoolIs w T TP TI sz enc p lv fv s) (hg : Blk w g t cs) (n1 : t ≠ T) (n2 : t ≠ TP) (n3 : t ≠ TI) : g ∉ poolFp p lv fv := fun hm => by
  rcases mem_poolFp.1 hm with rfl | hm | hm
  · exact hg.ne_ h.blk n1 rfl
  · exact h.tab.ne_blk hg n2.symm (by simpa using hm)
  · exact h.free.ne_blk hg n3.symm (by simpa using hm)
theorem PoolOwn.ne_blk {g : Nat} {t : TypeId} {cs : Array Value} (h : PoolOwn B w0 w T TP TI sz enc p lv fv s) (hg : Blk w g t cs) (n1 : t ≠ T) (n2 : t ≠ TP) (n3 : t ≠ TI) : g ∉ poolFp p lv fv := h.is.ne_blk hg n1 n2 n3
end
end Go.Proofs.Ytjabofofofddbaa
