import Derived.Test.YtognmhgdegpdiaaSlotsPlE
import Derived.Test.YtognmhgdegpdiaaSlotsF
section
/- Handles against plain pools: parts of play's code, and frames. -/
namespace Go.Proofs.Ytognmhgdegpdiaa
open Go.RowKit
set_option linter.unusedVariables false
set_option linter.unusedSimpArgs false
set_option maxRecDepth 100000

/-- A part of a code. -/
def kidC : Code → Nat → Code
  | .seq a _, 0 => a
  | .seq _ b, _ => b
  | .cond _ a _, 0 => a
  | .cond _ _ b, _ => b
  | .block _ a, _ => a
  | .loop a, _ => a
  | c, _ => c
def subC (c : Code) (p : List Nat) : Code := p.foldl kidC c
/-- A part of play's body. -/
def PlayWp (p : List Nat) (Q : Exit → Act → World → Prop) (a : Act) (w : World) : Prop := (subC (Try.f20.body.getD .skip) p).wp Try.prog Q a w
def p2 : List Nat := [1, 1, 1, 1, 0, 1, 0, 0, 1, 0, 0, 1, 1, 1, 1, 1, 1, 1, 0, 1]

/-- What a slot holds. -/
def Sl (a : Act) (i : Nat) (v : Value) : Prop := a.tmps.getD i undef = v
theorem frame_ext {L : List Value} {n : Nat} {f : Nat → Value} (h : L.length = n) (hf : ∀ i, i < n → L.getD i undef = f i) : L = (List.range n).map f := by
  refine List.ext_getElem? fun i => ?_
  by_cases hi : i < n
  · have := hf i hi
    rw [List.getD_eq_getElem?_getD] at this
    rw [List.getElem?_eq_getElem (by omega)] at this ⊢
    simp only [Option.getD_some] at this
    simp [hi, this]
  · rw [List.getElem?_eq_none (by omega), List.getElem?_eq_none (by simp; omega)]
theorem frame_open (a : Act) (h : a.tmps.size = 497) (hd : a.defers = []) : ∃ f : Nat → Value, (∀ i v, Sl a i v → f i = v) ∧ a = ⟨#[f 0, f 1, f 2, f 3, f 4, f 5, f 6, f 7, f 8, f 9, f 10, f 11, f 12, f 13, f 14, f 15, f 16, f 17, f 18, f 19, f 20, f 21, f 22, f 23, f 24, f 25, f 26, f 27, f 28, f 29, f 30, f 31, f 32, f 33, f 34, f 35, f 36, f 37, f 38, f 39, f 40, f 41, f 42, f 43, f 44, f 45, f 46, f 47, f 48, f 49, f 50, f 51, f 52, f 53, f 54, f 55, f 56, f 57, f 58, f 59, f 60, f 61, f 62, f 63, f 64, f 65, f 66, f 67, f 68, f 69, f 70, f 71, f 72, f 73, f 74, f 75, f 76, f 77, f 78, f 79, f 80, f 81, f 82, f 83, f 84, f 85, f 86, f 87, f 88, f 89, f 90, f 91, f 92, f 93, f 94, f 95, f 96, f 97, f 98, f 99, f 100, f 101, f 102, f 103, f 104, f 105, f 106, f 107, f 108, f 109, f 110, f 111, f 112, f 113, f 114, f 115, f 116, f 117, f 118, f 119, f 120, f 121, f 122, f 123, f 124, f 125, f 126, f 127, f 128, f 129, f 130, f 131, f 132, f 133, f 134, f 135, f 136, f 137, f 138, f 139, f 140, f 141, f 142, f 143, f 144, f 145, f 146, f 147, f 148, f 149, f 150, f 151, f 152, f 153, f 154, f 155, f 156, f 157, f 158, f 159, f 160, f 161, f 162, f 163, f 164, f 165, f 166, f 167, f 168, f 169, f 170, f 171, f 172, f 173, f 174, f 175, f 176, f 177, f 178, f 179, f 180, f 181, f 182, f 183, f 184, f 185, f 186, f 187, f 188, f 189, f 190, f 191, f 192, f 193, f 194, f 195, f 196, f 197, f 198, f 199, f 200, f 201, f 202, f 203, f 204, f 205, f 206, f 207, f 208, f 209, f 210, f 211, f 212, f 213, f 214, f 215, f 216, f 217, f 218, f 219, f 220, f 221, f 222, f 223, f 224, f 225, f 226, f 227, f 228, f 229, f 230, f 231, f 232, f 233, f 234, f 235, f 236, f 237, f 238, f 239, f 240, f 241, f 242, f 243, f 244, f 245, f 246, f 247, f 248, f 249, f 250, f 251, f 252, f 253, f 254, f 255, f 256, f 257, f 258, f 259, f 260, f 261, f 262, f 263, f 264, f 265, f 266, f 267, f 268, f 269, f 270, f 271, f 272, f 273, f 274, f 275, f 276, f 277, f 278, f 279, f 280, f 281, f 282, f 283, f 284, f 285, f 286, f 287, f 288, f 289, f 290, f 291, f 292, f 293, f 294, f 295, f 296, f 297, f 298, f 299, f 300, f 301, f 302, f 303, f 304, f 305, f 306, f 307, f 308, f 309, f 310, f 311, f 312, f 313, f 314, f 315, f 316, f 317, f 318, f 319, f 320, f 321, f 322, f 323, f 324, f 325, f 326, f 327, f 328, f 329, f 330, f 331, f 332, f 333, f 334, f 335, f 336, f 337, f 338, f 339, f 340, f 341, f 342, f 343, f 344, f 345, f 346, f 347, f 348, f 349, f 350, f 351, f 352, f 353, f 354, f 355, f 356, f 357, f 358, f 359, f 360, f 361, f 362, f 363, f 364, f 365, f 366, f 367, f 368, f 369, f 370, f 371, f 372, f 373, f 374, f 375, f 376, f 377, f 378, f 379, f 380, f 381, f 382, f 383, f 384, f 385, f 386, f 387, f 388, f 389, f 390, f 391, f 392, f 393, f 394, f 395, f 396, f 397, f 398, f 399, f 400, f 401, f 402, f 403, f 404, f 405, f 406, f 407, f 408, f 409, f 410, f 411, f 412, f 413, f 414, f 415, f 416, f 417, f 418, f 419, f 420, f 421, f 422, f 423, f 424, f 425, f 426, f 427, f 428, f 429, f 430, f 431, f 432, f 433, f 434, f 435, f 436, f 437, f 438, f 439, f 440, f 441, f 442, f 443, f 444, f 445, f 446, f 447, f 448, f 449, f 450, f 451, f 452, f 453, f 454, f 455, f 456, f 457, f 458, f 459, f 460, f 461, f 462, f 463, f 464, f 465, f 466, f 467, f 468, f 469, f 470, f 471, f 472, f 473, f 474, f 475, f 476, f 477, f 478, f 479, f 480, f 481, f 482, f 483, f 484, f 485, f 486, f 487, f 488, f 489, f 490, f 491, f 492, f 493, f 494, f 495, f 496], []⟩ := by
  obtain ⟨⟨L⟩, d⟩ := a
  simp only [List.size_toArray] at h
  simp only at hd
  subst hd
  refine ⟨fun i => L.getD i undef, fun i v hv => ?_, ?_⟩
  · unfold Sl at hv
    rw [← hv]
    simp [Array.getD_eq_getD_getElem?, List.getD_eq_getElem?_getD]
  · have := frame_ext (f := fun i => L.getD i undef) h (fun _ _ => rfl)
    rw [Act.mk.injEq]
    refine ⟨?_, rfl⟩
    congr 1
end Go.Proofs.Ytognmhgdegpdiaa

end
section
/- Handles against plain pools: what the parts of play hand on. -/
namespace Go.Proofs.Ytognmhgdegpdiaa
open Go.RowKit
set_option linter.unusedVariables false
set_option linter.unusedSimpArgs false
set_option maxRecDepth 100000

/-- What stays through all of play: the arguments, the world at its beginning. -/
structure PB where
  A1 : Option Addr
  n1 : Nat
  c1 : Nat
  w0 : World
/-- A round's own: the ask, the handles, what the plain pools tell of them. -/
structure HD where
  k : Nat
  xb : Nat
  hb : Nat
  ob : Nat
  cb : Nat
  kd : Int
  kk : Int
  ho : Int
  oo : Int
  io : Int
  ce : Int
  ra : Int
  rg : Int
  h0 : Int
  h1 : Int
  o0 : Int
  o1 : Int
  c0 : Int
  c1 : Int
  a : Int
  e : Int
  b : Int
  f : Int
  j : Int
  g : Int
  hs : Value
  is_ : Value
  HS : List (Int × Int)
  IS : List (Int × Int)

def HD.ask (D : HD) : Ent := blkE D.xb 47 #[.int .i64 D.kd, .int .i64 D.kk, .int .i64 D.ho, .int .i64 D.oo, .int .i64 D.io, .int .i64 D.ce, .int .i64 D.ra, .int .i64 D.rg]
def HD.tabs (D : HD) : List Ent := [tabE 27 2 D.hs (rowsR D.HS), tabE 27 2 D.is_ (rowsR D.IS)]
def HD.es (D : HD) : List Ent := D.tabs ++ [D.ask, blkE D.hb 27 #[.int .i64 D.h0, .int .i64 D.h1], blkE D.ob 27 #[.int .i64 D.o0, .int .i64 D.o1], blkE D.cb 27 #[.int .i64 D.c0, .int .i64 D.c1]]
/-- The slots that last. -/
structure Fr (Z : PB) (X : PM) (k : Nat) (hs is_ : Value) (a : Act) : Prop where
  size : a.tmps.size = 497
  defers : a.defers = []
  s1 : Sl a 1 (.slice Z.A1 Z.n1 Z.c1)
  s5 : Sl a 5 (.pointer (some ⟨X.t, 0, none⟩))
  s6 : Sl a 6 (.pointer (some ⟨X.m, 0, none⟩))
  s7 : Sl a 7 hs
  s8 : Sl a 8 is_
  s9 : Sl a 9 (.int .i64 (k : Int))
/-- At the loop's head. -/
structure AtLoop (Z : PB) (k : Nat) (X : PM) (hs is_ : Value) (HS IS : List (Int × Int)) (a : Act) (w : World) : Prop where
  fr : Fr Z X k hs is_ a
  k1 : k ≤ 80
  k2 : k ≤ Z.n1
  h1 : 1 ≤ HS.length
  h2 : HS.length ≤ k + 1
  i1 : 1 ≤ IS.length
  i2 : IS.length ≤ k + 1
  inv : PInv k X
  led : Led Z.w0.heap.size Z.w0 w (X.mem ++ [tabE 27 2 hs (rowsR HS), tabE 27 2 is_ (rowsR IS)])
/-- Ahead of the switch. -/
structure AtSw (Z : PB) (X : PM) (D : HD) (a : Act) (w : World) : Prop where
  fr : Fr Z X D.k D.hs D.is_ a
  s10 : Sl a 10 (.pointer (some ⟨D.xb, 0, none⟩))
  s11 : Sl a 11 (.pointer (some ⟨D.hb, 0, none⟩))
  s12 : Sl a 12 (.pointer (some ⟨D.ob, 0, none⟩))
  s13 : Sl a 13 (.pointer (some ⟨D.cb, 0, none⟩))
  s14 : Sl a 14 (.int .i64 D.a)
  s15 : Sl a 15 (.int .i64 D.e)
  s16 : Sl a 16 (.int .i64 D.b)
  s17 : Sl a 17 (.int .i64 D.f)
  s18 : Sl a 18 (.int .i64 D.j)
  s19 : Sl a 19 (.int .i64 D.g)
  s132 : Sl a 132 (.int .i64 D.kd)
  k1 : D.k < 80
  k2 : D.k < Z.n1
  h1 : 1 ≤ D.HS.length
  h2 : D.HS.length ≤ D.k + 1
  i1 : 1 ≤ D.IS.length
  i2 : D.IS.length ≤ D.k + 1
  inv : PInv D.k X
  gh : GetR 0 X.rh D.h0 D.h1 D.a D.e
  go : GetR 0 X.rh D.o0 D.o1 D.b D.f
  gi : GetR 0 X.ri D.c0 D.c1 D.j D.g
  kk : in64 D.kk
  ce : in64 D.ce
  led : Led Z.w0.heap.size Z.w0 w (X.mem ++ D.es)
/-- Behind the switch. -/
structure AtEnd (Z : PB) (X : PM) (D : HD) (a : Act) (w : World) : Prop where
  fr : Fr Z X D.k D.hs D.is_ a
  s10 : Sl a 10 (.pointer (some ⟨D.xb, 0, none⟩))
  s11 : Sl a 11 (.pointer (some ⟨D.hb, 0, none⟩))
  s13 : Sl a 13 (.pointer (some ⟨D.cb, 0, none⟩))
  k1 : D.k < 80
  k2 : D.k < Z.n1
  h1 : 1 ≤ D.HS.length
  h2 : D.HS.length ≤ D.k + 2
  i1 : 1 ≤ D.IS.length
  i2 : D.IS.length ≤ D.k + 2
  inv : PInv (D.k + 1) X
  ce : in64 D.ce
  led : Led Z.w0.heap.size Z.w0 w (X.mem ++ D.es)

section
variable {B : Nat} {w0 w : World} {X : PM} {D : HD} {es : List Ent}
theorem hdAsk (h : Led B w0 w (X.mem ++ D.es)) : Blk w D.xb 47 #[.int .i64 D.kd, .int .i64 D.kk, .int .i64 D.ho, .int .i64 D.oo, .int .i64 D.io, .int .i64 D.ce, .int .i64 D.ra, .int .i64 D.rg] := h.at_ 23 rfl
theorem hdH (h : Led B w0 w (X.mem ++ D.es)) : Blk w D.hb 27 #[.int .i64 D.h0, .int .i64 D.h1] := h.at_ 24 rfl
theorem hdO (h : Led B w0 w (X.mem ++ D.es)) : Blk w D.ob 27 #[.int .i64 D.o0, .int .i64 D.o1] := h.at_ 25 rfl
theorem hdC (h : Led B w0 w (X.mem ++ D.es)) : Blk w D.cb 27 #[.int .i64 D.c0, .int .i64 D.c1] := h.at_ 26 rfl
end
theorem led_int_at {B : Nat} {w0 w : World} {es : List Ent} {i g n c j : Nat} {v : Value} {L : List Int} {q : Int} (h : Led B w0 w es) (hi : es[i]? = some (tabE 3 1 v (intRows L))) (hv : v = .slice (some ⟨g, 0, none⟩) n c) (hq : L[j]? = some q) (b : Int) :
    Led B w0 (w.setCell ⟨g, j, none⟩ (.int .i64 b)) (es.set i (tabE 3 1 v (intRows (L.set j b)))) := by
  subst hv
  have hT : TabIs w 0 3 1 (.slice (some ⟨g, 0, none⟩) n c) (intRows L) := h.at_ i hi
  have h1 := hT.set (i := j) (j := 0) (r := [.int .i64 q]) (.int .i64 b) (by rw [intRows, List.getElem?_map, hq]; rfl) (by decide)
  rw [Nat.mul_one, Nat.add_zero] at h1
  exact h.step i hi _ ((Chg.refl _ _).setCell (p := ⟨g, j, none⟩) (.inl (by simp [tabE, Value.ownBlock])) (.int .i64 b)) (by simpa [tabE, intRows, List.map_set] using h1) (Fresh.refl _ _)

/-- Root, whatever it answers. -/
theorem PInv.root_ {k : Nat} {X : PM} {a g u e e0 r n : Int} {sh' : PSt V3} (h : PInv k X) (q0 : GetR 0 X.rh a g u e) (q1 : RootR X.sh a g r n e0 sh') :
    e0 = e ∧ (e ≠ 0 → sh' = X.sh) ∧ (e = 0 → ∃ q : Nat, u = (q : Int) ∧ q < X.kd.length ∧ PInv k { X with sh := sh', rt := X.rt.set q r, nn := X.nn.set q n }) := by
  have hl := h.simH.look a g
  have l0 : X.rh.look a g = e := by
    rcases q0 with ⟨_, h1, _⟩ | ⟨i, x, rfl, rfl, hx, ht, hg, rfl, _⟩
    · exact h1
    · exact look_ok hx ht hg
  rcases q1 with ⟨h1, h2, rfl⟩ | ⟨i, x, rfl, rfl, hx, ht, hg, rfl, rfl⟩
  · have he : e0 = e := by rw [← h2, ← l0, hl]
    exact ⟨he, fun _ => rfl, fun e0' => absurd (he.trans e0') h1⟩
  · have he : (0 : Int) = e := by rw [← l0, hl, look_ok hx ht hg]
    refine ⟨he, fun h1 => absurd he.symm h1, fun _ => ?_⟩
    obtain ⟨y, q, hy, hq, hyt, hge, _, _, _, _, hlt⟩ := h.heap hx ht
    have hu : u = (q : Int) := by
      rcases q0 with ⟨h1, _⟩ | ⟨i', y', hi, _, hy', _, _, _, rfl⟩
      · exact absurd he.symm h1
      · obtain rfl : i = i' := by omega
        rw [hy] at hy'
        injection hy' with hy'
        subst hy'
        exact hq
    exact ⟨q, hu, hlt, h.root r n hx ht hy hq⟩
/-- Take, whatever it answers. -/
theorem PInv.take_ {k : Nat} {X : PM} {a g u e e0 : Int} {v : V3} {si' : PSt V3} (h : PInv k X) (q0 : GetR 0 X.ri a g u e) (q1 : GiveR ⟨0, 0, 0⟩ X.si a g v e0 si') :
    e0 = e ∧ (e ≠ 0 → si' = X.si ∧ ∀ u2 e2 r', RGiveR X.ri a g u2 e2 r' → r' = X.ri) ∧ (e = 0 → ∃ q : Nat, u = (q : Int) ∧ q < X.cl.length ∧ X.cl[q]? = some v.a ∧
      ∀ u2 e2 r' (fi ib : Value), RGiveR X.ri a g u2 e2 r' → PInv k { X with fi := fi, ib := ib, si := si', ri := r', f := upd X.f v.a none }) := by
  have hl := h.simI.look a g
  have l0 : X.ri.look a g = e := by
    rcases q0 with ⟨_, h1, _⟩ | ⟨i, x, rfl, rfl, hx, ht, hg, rfl, _⟩
    · exact h1
    · exact look_ok hx ht hg
  rcases q1 with ⟨h1, h2, rfl, rfl⟩ | ⟨i, x, rfl, rfl, hx, ht, hg, rfl, rfl, rfl⟩
  · have he : e0 = e := by rw [← h2, ← l0, hl]
    refine ⟨he, fun _ => ⟨rfl, fun u2 e2 r' hr => ?_⟩, fun e0' => absurd (he.trans e0') h1⟩
    rcases hr with ⟨_, _, _, rfl⟩ | ⟨i, y, rfl, rfl, hy, ht, hg, _⟩
    · rfl
    · exact absurd (h2.symm.trans (hl.symm.trans (look_ok hy ht hg))) h1
  · have he : (0 : Int) = e := by rw [← l0, hl, look_ok hx ht hg]
    refine ⟨he, fun h1 => absurd he.symm h1, fun _ => ?_⟩
    obtain ⟨y, q, n, hy, hq, hyt, hge, hcl, _, _, hlt, _⟩ := h.item hx ht
    have hu : u = (q : Int) := by
      rcases q0 with ⟨h1, _⟩ | ⟨i', y', hi, _, hy', _, _, _, rfl⟩
      · exact absurd he.symm h1
      · obtain rfl : i = i' := by omega
        rw [hy] at hy'
        injection hy' with hy'
        subst hy'
        exact hq
    refine ⟨q, hu, hlt, hcl, fun u2 e2 r' fi ib hr => ?_⟩
    rcases hr with ⟨h1, h2, _⟩ | ⟨i', y', hi, hgy, hy', hyt', hg', _, _, rfl⟩
    · exact absurd (h2.symm.trans (hl.trans (look_ok hx ht hg))) h1
    · obtain rfl : i = i' := by omega
      rw [hy] at hy'
      injection hy' with hy'
      subst hy'
      exact h.take hx ht hy fi ib
theorem pm_small {B k : Nat} {w0 w : World} {X : PM} {es : List Ent} (hi : PInv k X) (h : Led B w0 w (X.mem ++ es)) : X.ri.l.length ≤ 65536 ∧ X.ri.free.length ≤ 65536 ∧ X.ri.most ≤ 65536 ∧ X.rh.l.length ≤ 65536 ∧ X.rh.free.length ≤ 65536 ∧ X.rh.most ≤ 65536 ∧ (∀ i, i ∈ X.ri.free → i < X.ri.l.length) ∧ (∀ i, i ∈ X.rh.free → i < X.rh.l.length) := by
  have hw := pmWF h
  have r1 := hi.simI.wf hw.2
  have r2 := hi.simH.wf hw.1
  have a1 := r1.le
  have a2 := r1.most
  have a3 := r1.free_le
  have b1 := r2.le
  have b2 := r2.most
  have b3 := r2.free_le
  exact ⟨by omega, by omega, a2, by omega, by omega, b2, fun i hm => by obtain ⟨x, hx, _⟩ := (r1.free i).1 hm; exact (List.getElem?_eq_some_iff.1 hx).1, fun i hm => by obtain ⟨x, hx, _⟩ := (r2.free i).1 hm; exact (List.getElem?_eq_some_iff.1 hx).1⟩
/-- Values in memory are nothing to the plain state. -/
theorem PInv.look_eq {k : Nat} {X : PM} {a g u e : Int} (h : PInv k X) (q0 : GetR 0 X.rh a g u e) : X.sh.look a g = e := by
  rw [← h.simH.look a g]
  rcases q0 with ⟨_, h1, _⟩ | ⟨i, x, rfl, rfl, hx, ht, hg, rfl, _⟩
  · exact h1
  · exact look_ok hx ht hg
/-- Of a Ref of a heap that is there. -/
theorem PInv.heap_at {k : Nat} {X : PM} {a g u : Int} (h : PInv k X) (q0 : GetR 0 X.rh a g u 0) : ∃ (i n : Nat) (x : Pl V3) (y : Pl Int), a = (i : Int) ∧ g = x.gen ∧ X.sh.l[i]? = some x ∧ x.taken = true ∧ 1 ≤ x.gen ∧ X.rh.l[i]? = some y ∧ y.v = (n : Int) ∧ u = (n : Int) ∧ n < X.kd.length ∧ X.kd[n]? = some x.v.a := by
  have hl := h.look_eq q0
  obtain ⟨i, x, rfl, hx, rfl, ht, hg⟩ := PSt.look_zero hl
  obtain ⟨y, n, hy, hn, hyt, hge, hk, _, _, _, hlt⟩ := h.heap hx ht
  rcases q0 with ⟨h1, _⟩ | ⟨i', y', hi, _, hy', _, _, _, rfl⟩
  · exact absurd rfl h1
  · obtain rfl : i = i' := by omega
    rw [hy] at hy'
    injection hy' with hy'
    subst hy'
    exact ⟨i, n, x, y, rfl, rfl, hx, ht, hg, hy, hn, hn, hlt, hk⟩
/-- Join, whatever it answers. -/
theorem PInv.join_ {k : Nat} {X : PM} {a g u e a2 g2 u2 e2 e0 : Int} {sh' si' : PSt V3} (h : PInv k X) (q0 : GetR 0 X.rh a g u e) (q2 : GetR 0 X.rh a2 g2 u2 e2) (q1 : JoinR X.sh X.si a g a2 g2 e0 sh' si') :
    (e ≠ 0 ∧ e0 = e ∧ sh' = X.sh ∧ si' = X.si) ∨ (e = 0 ∧ e2 ≠ 0 ∧ e0 = e2 ∧ sh' = X.sh ∧ si' = X.si) ∨
    (e = 0 ∧ e2 = 0 ∧ ∃ (n n2 : Nat) (c c2 : Int), u = (n : Int) ∧ u2 = (n2 : Int) ∧ n < X.kd.length ∧ n2 < X.kd.length ∧ X.kd[n]? = some c ∧ X.kd[n2]? = some c2 ∧
      ((n = n2 ∧ e0 = 25 ∧ sh' = X.sh ∧ si' = X.si) ∨ (n ≠ n2 ∧ c ≠ c2 ∧ e0 = 24 ∧ sh' = X.sh ∧ si' = X.si) ∨
       (n ≠ n2 ∧ c = c2 ∧ e0 = 0 ∧ ∀ u3 e3 r' (fh hb : Value), RGiveR X.rh a2 g2 u3 e3 r' → PInv k { X with fh := fh, hb := hb, sh := sh', rh := r', si := si', inn := joinL u u2 X.inn }))) := by
  have l1 := h.look_eq q0
  have l2 := h.look_eq q2
  rcases q1 with ⟨h1, h2, h3, h4⟩ | ⟨h1, h2, h3, h4, h5⟩ | ⟨i, k2, x, y, rfl, rfl, rfl, rfl, hx, hy, hxt, hyt, hgx, hgy, hj⟩
  · exact .inl ⟨fun e1 => h1 (h2.symm.trans (l1.trans e1)), h2.symm.trans l1, h3, h4⟩
  · exact .inr (.inl ⟨l1.symm.trans h1, fun e1 => h2 (h3.symm.trans (l2.trans e1)), h3.symm.trans l2, h4, h5⟩)
  · have he : e = 0 := by rw [← l1, look_ok hx hxt hgx]
    have he2 : e2 = 0 := by rw [← l2, look_ok hy hyt hgy]
    subst he he2
    obtain ⟨i', n, x', yr, hi, _, hx', _, _, hyr, hyn, hu, hn, hk⟩ := h.heap_at q0
    obtain ⟨i2', n2, y', yr2, hi2, _, hy', _, _, hyr2, hyn2, hu2, hn2, hk2⟩ := h.heap_at q2
    obtain rfl : i = i' := by omega
    obtain rfl : k2 = i2' := by omega
    rw [hx] at hx'
    rw [hy] at hy'
    injection hx' with hx'
    injection hy' with hy'
    subst hx' hy'
    refine .inr (.inr ⟨rfl, rfl, n, n2, x.v.a, y.v.a, hu, hu2, hn, hn2, hk, hk2, ?_⟩)
    have hself : refEq (i : Int) x.gen (k2 : Int) y.gen = true → n = n2 := fun hr => by
      have := (refEq_true.1 hr).1
      obtain rfl : i = k2 := by omega
      rw [hyr] at hyr2
      injection hyr2 with hyr2
      subst hyr2
      omega
    have hother : refEq (i : Int) x.gen (k2 : Int) y.gen = false → n ≠ n2 ∧ i ≠ k2 := fun hr => by
      have hik : i ≠ k2 := fun e => by
        subst e
        rw [hx] at hy
        injection hy with hy
        subst hy
        exact (refEq_false.1 hr) ⟨rfl, rfl⟩
      exact ⟨fun e => hik (h.heap_ne hx hxt hyr hy hyt hyr2 (by omega)), hik⟩
    rcases hj with ⟨h1, h2, h3, h4⟩ | ⟨h1, h2, h3, h4, h5⟩ | ⟨h1, h2, h3, rfl, rfl⟩
    · exact .inl ⟨hself h1, h2, h3, h4⟩
    · exact .inr (.inl ⟨(hother h1).1, h2, h3, h4, h5⟩)
    · refine .inr (.inr ⟨(hother h1).1, h2, h3, fun u3 e3 r' fh hb hr => ?_⟩)
      rcases hr with ⟨h5, h6, _⟩ | ⟨j, z, hj, _, hz, _, _, _, _, rfl⟩
      · exact absurd (h6.symm.trans ((h.simH.look _ _).trans (look_ok hy hyt hgy))) h5
      · obtain rfl : k2 = j := by omega
        rw [hyr2] at hz
        injection hz with hz
        subst hz
        have hres := h.join (hother h1).2 hx hxt hyr hy hyt hyr2 fh hb
        rw [hyn, hyn2] at hres
        rw [hu, hu2]
        rw [hyn2]
        exact hres
theorem turnI_at {al M : List Int} {k : Nat} (hl : M.length = al.length) (hk : k < al.length) : (M.take k ++ al.drop k)[k]? = al[k]? := by
  have h1 : (M.take k).length = k := by rw [List.length_take]; omega
  rw [List.getElem?_append_right (by omega), h1, Nat.sub_self, List.getElem?_drop, Nat.add_zero]
theorem turnI_set {al M : List Int} {k : Nat} {m : Int} (hl : M.length = al.length) (hk : k < al.length) (hm : M[k]? = some m) : (M.take k ++ al.drop k).set k m = M.take (k + 1) ++ al.drop (k + 1) := by
  have h1 : (M.take k).length = k := by rw [List.length_take]; omega
  rw [List.set_append_right _ _ (by omega), h1, Nat.sub_self, List.drop_eq_getElem_cons hk, List.set_cons_zero, List.take_add_one, hm, List.append_assoc]
  rfl
theorem turnI_same {al M : List Int} {k : Nat} {m : Int} (hl : M.length = al.length) (hk : k < al.length) (hm : M[k]? = some m) (ha : al[k]? = some m) : M.take k ++ al.drop k = M.take (k + 1) ++ al.drop (k + 1) := by
  rw [← turnI_set hl hk hm]
  refine List.ext_getElem? fun i => ?_
  by_cases hi : k = i
  · subst hi
    have h2 : k < (M.take k ++ al.drop k).length := by rw [List.length_append, List.length_take, List.length_drop]; omega
    rw [List.getElem?_set_self h2, turnI_at hl hk, ha]
  · rw [List.getElem?_set_ne hi]
theorem turnI_len {al M : List Int} {k : Nat} (hl : M.length = al.length) (hk : k ≤ al.length) : (M.take k ++ al.drop k).length = al.length := by
  rw [List.length_append, List.length_take, List.length_drop]; omega
theorem PInv.vals {k : Nat} {X X' : PM} (h : PInv k X) (e : (X'.sh, X'.si, X'.f, X'.rh, X'.ri, X'.kd, X'.rt, X'.nn, X'.rf, X'.cl, X'.inn, X'.n) = (X.sh, X.si, X.f, X.rh, X.ri, X.kd, X.rt, X.nn, X.rf, X.cl, X.inn, X.n)) : PInv k X' := by
  cases X
  cases X'
  simp only [Prod.mk.injEq] at e
  obtain ⟨rfl, rfl, rfl, rfl, rfl, rfl, rfl, rfl, rfl, rfl, rfl, rfl⟩ := e
  exact ⟨h.simH, h.simI, h.lrt, h.lnn, h.lrf, h.lin, h.lkd, h.lcl, h.nk, h.ref, h.own, h.map, h.gens, h.cells⟩
theorem PInv.lkd' {k : Nat} {X : PM} (h : PInv k X) : X.kd.length ≤ k := h.lkd
/-- The map in memory may have grown. -/
theorem PInv.n' {k : Nat} {X : PM} {n' : Nat} (h : PInv k X) (hn : n' ≤ X.n + 1) : PInv (k + 1) { X with n := n' } :=
  ⟨h.mono.simH, h.mono.simI, h.lrt, h.lnn, h.lrf, h.lin, h.mono.lkd, h.mono.lcl, by have := h.nk; simp only; omega, h.mono.ref, h.mono.own, h.mono.map, h.mono.gens, h.mono.cells⟩
/-- Put, whatever it answers. -/
theorem PInv.put_ {k : Nat} {X : PM} {a g u0 e c u v e0 : Int} {si' : PSt V3} {f' : Int → Option (Int × Int)} (h : PInv k X) (q0 : GetR 0 X.rh a g u0 e) (q1 : PutR X.sh X.si X.f a g c u v e0 si' f') :
    (e ≠ 0 ∧ e0 = e ∧ u = 0 ∧ v = 0 ∧ si' = X.si ∧ f' = X.f) ∨ (e = 0 ∧ X.si.l.length = X.si.most + X.si.free.length ∧ e0 = 13 ∧ u = 0 ∧ v = 0 ∧ si' = X.si ∧ f' = X.f) ∨
    (e = 0 ∧ X.si.l.length ≠ X.si.most + X.si.free.length ∧ (X.f c).isSome = true ∧ e0 = 1 ∧ u = 0 ∧ v = 0 ∧ si' = X.si ∧ f' = X.f) ∨
    (e = 0 ∧ X.si.l.length ≠ X.si.most + X.si.free.length ∧ X.f c = none ∧ e0 = 0 ∧ TakeR X.si ⟨c, a, g⟩ u v true si' ∧ f' = upd X.f c (some (u, v)) ∧
      ∃ (i n : Nat) (x : Pl V3) (y : Pl Int), a = (i : Int) ∧ g = x.gen ∧ X.sh.l[i]? = some x ∧ x.taken = true ∧ X.rh.l[i]? = some y ∧ u0 = y.v) := by
  have l1 := h.look_eq q0
  rcases q1 with ⟨h1, h2, h3, h4, h5, h6⟩ | ⟨i, x, rfl, rfl, hx, ht, hg, hp⟩
  · exact .inl ⟨fun e1 => h1 (h2.symm.trans (l1.trans e1)), h2.symm.trans l1, h3, h4, h5, h6⟩
  · have he : e = 0 := by rw [← l1, look_ok hx ht hg]
    subst he
    rcases hp with ⟨h1, h2, h3, h4, h5, h6⟩ | ⟨h1, h2, h3, h4, h5, h6, h7⟩ | ⟨h1, h2, h3, h4, h5⟩
    · exact .inr (.inl ⟨rfl, h1, h4, h2, h3, h5, h6⟩)
    · exact .inr (.inr (.inl ⟨rfl, h1, h2, h5, h3, h4, h6, h7⟩))
    · obtain ⟨i', n, x', y, hi, _, hx', _, _, hy, hn, hu, _, _⟩ := h.heap_at q0
      obtain rfl : i = i' := by omega
      exact .inr (.inr (.inr ⟨rfl, h1, h2, h3, h4, h5, i, n, x, y, rfl, rfl, hx, ht, hy, hu.trans hn.symm⟩))
end Go.Proofs.Ytognmhgdegpdiaa

end
