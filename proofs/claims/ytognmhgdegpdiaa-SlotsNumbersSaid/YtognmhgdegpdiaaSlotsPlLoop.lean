import Derived.Test.YtognmhgdegpdiaaSlotsPlR10
import Derived.Test.YtognmhgdegpdiaaSlotsPlRound
/- Handles against plain pools: the loop. -/
namespace Go.Proofs.Ytognmhgdegpdiaa
open Go.RowKit
set_option linter.unusedVariables false
set_option linter.unusedSimpArgs false
set_option maxRecDepth 100000
set_option maxHeartbeats 16000000 in
theorem pl_round (Z : PB) (k : Nat) (X : PM) (hs is_ : Value) (HS IS : List (Int × Int)) (G : Nat → Int) (a : Act) (w : World) (Q : Exit → Act → World → Prop) (h : AtLoop Z k X hs is_ HS IS a w) (hk : k < 80) (hk2 : k < Z.n1)
    (hA : SlArg Z.w0 Z.w0.heap.size Z.A1 Z.n1 8 fun j => .int .i64 (G j)) (hG : ∀ j, j < Z.n1 * 8 → -9223372036854775808 ≤ G j ∧ G j ≤ 9223372036854775807) (hPan : ∀ c (a : Act) d v w, Q (.panic c) (a.put d v) w → Q (.panic c) a w)
    (hN : ∀ X hs is_ HS IS a w, AtDone Z k X hs is_ HS IS a w → Q .normal a w) (hE : ∀ X hs is_ HS IS a w, AtDone Z k X hs is_ HS IS a w → Q (.exit 1) a w) : PlayWp [1, 1, 1, 1, 0, 1, 0, 0, 1, 0, 0] Q a w := by
  have HPan := Lib.hid hPan
  clear hPan
  have hsz := h.fr.size
  have hde := h.fr.defers
  have v1 := h.fr.s1
  have v5 := h.fr.s5
  have v6 := h.fr.s6
  have v7 := h.fr.s7
  have v8 := h.fr.s8
  have v9 := h.fr.s9
  have hI := Lib.hid h.inv
  have L := Lib.hid h.led
  have HN := Lib.hid hN
  have HE := Lib.hid hE
  have h1 := h.h1
  have h2 := h.h2
  have i1 := h.i1
  have i2 := h.i2
  have HG := Lib.hid (fun j (hj : j < 8) => hG (k * 8 + j) (by omega))
  obtain ⟨bt, off, hA1, hb, hcell⟩ := hA (by omega)
  have HC := Lib.hid (fun (j : Nat) (hj : j < 8) => (h.led.be.cell (p := ⟨bt, off + (k * 8 + j), none⟩) hb).trans (hcell (k * 8 + j) (by omega)))
  rw [hA1] at v1
  clear h hN hE hA hG
  obtain ⟨fs, hfs, rfl⟩ := frame_open a hsz hde
  clear hsz hde
  replace v1 := hfs _ _ v1
  replace v5 := hfs _ _ v5
  replace v6 := hfs _ _ v6
  replace v7 := hfs _ _ v7
  replace v8 := hfs _ _ v8
  replace v9 := hfs _ _ v9
  clear hfs
  simp only [v1, v5, v6, v7, v8, v9]
  clear v1 v5 v6 v7 v8 v9
  unfold PlayWp
  conv => arg 2; whnf
  have x0 : w.cell? ⟨bt, off + k * 8, none⟩ = some (.int .i64 (G (k * 8))) := HC.out 0 (by omega)
  have x1 : w.cell? ⟨bt, off + k * 8 + 1, none⟩ = some (.int .i64 (G (k * 8 + 1))) := HC.out 1 (by omega)
  have x2 : w.cell? ⟨bt, off + k * 8 + 2, none⟩ = some (.int .i64 (G (k * 8 + 2))) := HC.out 2 (by omega)
  have x3 : w.cell? ⟨bt, off + k * 8 + 3, none⟩ = some (.int .i64 (G (k * 8 + 3))) := HC.out 3 (by omega)
  have x4 : w.cell? ⟨bt, off + k * 8 + 4, none⟩ = some (.int .i64 (G (k * 8 + 4))) := HC.out 4 (by omega)
  have x5 : w.cell? ⟨bt, off + k * 8 + 5, none⟩ = some (.int .i64 (G (k * 8 + 5))) := HC.out 5 (by omega)
  have x6 : w.cell? ⟨bt, off + k * 8 + 6, none⟩ = some (.int .i64 (G (k * 8 + 6))) := HC.out 6 (by omega)
  have x7 : w.cell? ⟨bt, off + k * 8 + 7, none⟩ = some (.int .i64 (G (k * 8 + 7))) := HC.out 7 (by omega)
  have s1 : (0 : Int) ≤ (k : Int) := by omega
  have s2 : (k : Int) < Z.n1 := by omega
  have S1 : Hid (Led Z.w0.heap.size Z.w0 (w.alloc (.cells #[.int .i64 (G (k * 8)), .int .i64 (G (k * 8 + 1)), .int .i64 (G (k * 8 + 2)), .int .i64 (G (k * 8 + 3)), .int .i64 (G (k * 8 + 4)), .int .i64 (G (k * 8 + 5)), .int .i64 (G (k * 8 + 6)), .int .i64 (G (k * 8 + 7))] 47)) (X.mem ++ (HD.tabs { k := k, xb := w.heap.size, hb := 0, ob := 0, cb := 0, kd := G (k * 8), kk := G (k * 8 + 1), ho := G (k * 8 + 2), oo := G (k * 8 + 3), io := G (k * 8 + 4), ce := G (k * 8 + 5), ra := G (k * 8 + 6), rg := G (k * 8 + 7), h0 := 0, h1 := 0, o0 := 0, o1 := 0, c0 := 0, c1 := 0, a := 0, e := 0, b := 0, f := 0, j := 0, g := 0, hs := hs, is_ := is_, HS := HS, IS := IS } ++ [HD.ask { k := k, xb := w.heap.size, hb := 0, ob := 0, cb := 0, kd := G (k * 8), kk := G (k * 8 + 1), ho := G (k * 8 + 2), oo := G (k * 8 + 3), io := G (k * 8 + 4), ce := G (k * 8 + 5), ra := G (k * 8 + 6), rg := G (k * 8 + 7), h0 := 0, h1 := 0, o0 := 0, o1 := 0, c0 := 0, c1 := 0, a := 0, e := 0, b := 0, f := 0, j := 0, g := 0, hs := hs, is_ := is_, HS := HS, IS := IS }]))) := Lib.hid (led_end (M := X.mem) (E := [tabE 27 2 hs (rowsR HS), tabE 27 2 is_ (rowsR IS)]) (T := 47) (cs := #[.int .i64 (G (k * 8)), .int .i64 (G (k * 8 + 1)), .int .i64 (G (k * 8 + 2)), .int .i64 (G (k * 8 + 3)), .int .i64 (G (k * 8 + 4)), .int .i64 (G (k * 8 + 5)), .int .i64 (G (k * 8 + 6)), .int .i64 (G (k * 8 + 7))]) L.out)
  have z1 := h1
  have z2 := h2
  go_upto_region 10 with fail
  refine pl_r10 Z X { k := k, xb := w.heap.size, hb := 0, ob := 0, cb := 0, kd := G (k * 8), kk := G (k * 8 + 1), ho := G (k * 8 + 2), oo := G (k * 8 + 3), io := G (k * 8 + 4), ce := G (k * 8 + 5), ra := G (k * 8 + 6), rg := G (k * 8 + 7), h0 := 0, h1 := 0, o0 := 0, o1 := 0, c0 := 0, c1 := 0, a := 0, e := 0, b := 0, f := 0, j := 0, g := 0, hs := hs, is_ := is_, HS := HS, IS := IS } _ _ _ rfl rfl rfl rfl rfl h1 (by show HS.length ≤ 1000; omega) i1 (by show IS.length ≤ 1000; omega) (HG.out 2 (by omega)) (HG.out 3 (by omega)) (HG.out 4 (by omega)) S1.out (fun c a d v w h => HPan.out c a d v w h) ?_
  intro hb' ob' cb' h0 h1' o0 o1 c0 c1 a2 w2 hsz hde hk3 v11 v12 v13 hl
  obtain ⟨g1, g5, g6, g7, g8, g9, g10⟩ := hk3
  simp only [Exit.then]
  rename_i K hK
  refine hK _ _ ?_
  refine pl_round2 Z X { ({ k := k, xb := w.heap.size, hb := 0, ob := 0, cb := 0, kd := G (k * 8), kk := G (k * 8 + 1), ho := G (k * 8 + 2), oo := G (k * 8 + 3), io := G (k * 8 + 4), ce := G (k * 8 + 5), ra := G (k * 8 + 6), rg := G (k * 8 + 7), h0 := 0, h1 := 0, o0 := 0, o1 := 0, c0 := 0, c1 := 0, a := 0, e := 0, b := 0, f := 0, j := 0, g := 0, hs := hs, is_ := is_, HS := HS, IS := IS } : HD) with hb := hb', ob := ob', cb := cb', h0 := h0, h1 := h1', o0 := o0, o1 := o1, c0 := c0, c1 := c1 } a2 w2 Q ⟨⟨hsz, hde, by rw [hA1]; exact g1, g5, g6, g7, g8, g9⟩, g10, v11, v12, v13, hk, hk2, h1, h2, i1, i2, hI.out, HG.out 1 (by omega), HG.out 5 (by omega), hl⟩ (fun c a d v w h => HPan.out c a d v w h) (fun X hs is_ HS IS a w h => HN.out X hs is_ HS IS a w h) (fun X hs is_ HS IS a w h => HE.out X hs is_ HS IS a w h)

set_option maxHeartbeats 16000000 in
theorem pl_body (Z : PB) (k : Nat) (X : PM) (hs is_ : Value) (HS IS : List (Int × Int)) (G : Nat → Int) (a : Act) (w : World) (Q : Exit → Act → World → Prop) (h : AtLoop Z k X hs is_ HS IS a w)
    (hA : SlArg Z.w0 Z.w0.heap.size Z.A1 Z.n1 8 fun j => .int .i64 (G j)) (hG : ∀ j, j < Z.n1 * 8 → -9223372036854775808 ≤ G j ∧ G j ≤ 9223372036854775807) (hPan : ∀ c (a : Act) d v w, Q (.panic c) (a.put d v) w → Q (.panic c) a w)
    (hN : ∀ X hs is_ HS IS a w, k < 80 → AtLoop Z (k + 1) X hs is_ HS IS a w → Q .normal a w) (hE : ∀ a w, AtLoop Z k X hs is_ HS IS a w → Q (.exit 0) a w) : PlayWp [1, 1, 1, 1, 0, 1, 0, 0] Q a w := by
  have HPan := Lib.hid hPan
  clear hPan
  have hsz := h.fr.size
  have hde := h.fr.defers
  have v1 := h.fr.s1
  have v5 := h.fr.s5
  have v6 := h.fr.s6
  have v7 := h.fr.s7
  have v8 := h.fr.s8
  have v9 := h.fr.s9
  have hI := Lib.hid h.inv
  have L := Lib.hid h.led
  have HN := Lib.hid hN
  have HE := Lib.hid hE
  have h1 := h.h1
  have h2 := h.h2
  have i1 := h.i1
  have i2 := h.i2
  have kk1 := h.k1
  have kk2 := h.k2
  have HA := Lib.hid hA
  have HG := Lib.hid hG
  clear h hN hE hA hG
  obtain ⟨fs, hfs, rfl⟩ := frame_open a hsz hde
  clear hsz hde
  replace v1 := hfs _ _ v1
  replace v5 := hfs _ _ v5
  replace v6 := hfs _ _ v6
  replace v7 := hfs _ _ v7
  replace v8 := hfs _ _ v8
  replace v9 := hfs _ _ v9
  clear hfs
  simp only [v1, v5, v6, v7, v8, v9]
  clear v1 v5 v6 v7 v8 v9
  unfold PlayWp
  conv => arg 2; whnf
  by_cases hlt : k < Z.n1 ∧ k < 80
  · obtain ⟨hlt1, hlt2⟩ := hlt
    go_upto_block 1 with fail
    apply wp_block
    rename_i K hK
    have hdone : ∀ X hs is_ HS IS a2 w2, AtDone Z k X hs is_ HS IS a2 w2 → K a2 w2 := by
      intro X hs is_ HS IS a2 w2 hd
      refine hK _ _ ?_
      have hdl := Lib.hid hd.led
      have hdi := Lib.hid hd.inv
      have q1 := hd.h1
      have q2 := hd.h2
      have q3 := hd.i1
      have q4 := hd.i2
      have hsz := hd.fr.size
      have hde := hd.fr.defers
      have y1 := hd.fr.s1
      have y5 := hd.fr.s5
      have y6 := hd.fr.s6
      have y7 := hd.fr.s7
      have y8 := hd.fr.s8
      have y9 := hd.fr.s9
      clear hd hK
      obtain ⟨gs, hgs, rfl⟩ := frame_open a2 hsz hde
      replace y1 := hgs _ _ y1
      replace y5 := hgs _ _ y5
      replace y6 := hgs _ _ y6
      replace y7 := hgs _ _ y7
      replace y8 := hgs _ _ y8
      replace y9 := hgs _ _ y9
      clear hgs hsz hde
      simp only [y1, y5, y6, y7, y8, y9]
      clear y1 y5 y6 y7 y8 y9
      go_wp2_with fail
      exact HN.out X hs is_ HS IS _ _ hlt2 ⟨⟨rfl, rfl, rfl, rfl, rfl, rfl, rfl, (show Sl _ 9 _ from rfl)⟩, by omega, by omega, q1, by omega, q3, by omega, hdi.out, hdl.out⟩
    refine pl_round Z k X hs is_ HS IS G _ _ _ ⟨⟨rfl, rfl, rfl, rfl, rfl, rfl, rfl, rfl⟩, kk1, kk2, h1, h2, i1, i2, hI.out, L.out⟩ hlt2 hlt1 HA.out HG.out (fun c a d v w h => HPan.out c a d v w h) ?_ ?_
    · intro X hs is_ HS IS a2 w2 hd
      show K a2 w2
      exact hdone X hs is_ HS IS a2 w2 hd
    · intro X hs is_ HS IS a2 w2 hd
      show Exit.inBlock 1 (Exit.then K Q) (.exit 1) a2 w2
      simp only [Exit.inBlock, if_true, Exit.then]
      exact hdone X hs is_ HS IS a2 w2 hd
  · by_cases hlt1 : k < Z.n1
    · obtain rfl : k = 80 := by omega
      have hd1 : decide ((80 : Int) < Z.n1) = true := by simp; omega
      clear hlt
      go_wp2_with fail
      exact HE.out _ _ ⟨⟨rfl, rfl, rfl, rfl, rfl, rfl, rfl, rfl⟩, kk1, kk2, h1, h2, i1, i2, hI.out, L.out⟩
    · have hd1 : decide ((k : Int) < Z.n1) = false := by simp; omega
      clear hlt
      go_wp2_with fail
      exact HE.out _ _ ⟨⟨rfl, rfl, rfl, rfl, rfl, rfl, rfl, rfl⟩, kk1, kk2, h1, h2, i1, i2, hI.out, L.out⟩
end Go.Proofs.Ytognmhgdegpdiaa
