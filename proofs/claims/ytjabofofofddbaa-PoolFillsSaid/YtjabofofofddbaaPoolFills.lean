/- PoolFills: the walk. -/
import Derived.Test.YtjabofofofddbaaPoolStr
import Derived.Test.YtjabofofofddbaaPoolLaw
import Derived.Test.YtjabofofofddbaaRingLaw
namespace Go.Proofs.Ytjabofofofddbaa
open Go.RowKit
set_option maxRecDepth 100000

/-- The pool, the Refs that were told, the places that are gone. -/
structure FillSt (B p : Nat) (w0 wr : World) (lv fv vr vg : Value) (s : PSt ByteArray) (RF : List (Int × Int)) (G : List Nat) : Prop where
  po : PoolOwn B w0 wr 117 119 3 3 (fun (v : ByteArray) => [Value.string v]) p lv fv s
  re : TabIs wr B 57 2 vr (RF.map fun r => [Value.int .i64 r.1, Value.int .i64 r.2])
  go : TabIs wr B 3 1 vg (G.map fun (i : Nat) => [Value.int .i64 (i : Int)])
  a1 : Apart (poolFp p lv fv) vr.ownBlock.toList
  a2 : Apart (poolFp p lv fv) vg.ownBlock.toList
  a3 : Apart vr.ownBlock.toList vg.ownBlock.toList

section
variable {B p : Nat} {w0 wr w' : World} {lv fv lv' fv' vr vg vr' vg' : Value} {s s' : PSt ByteArray} {RF : List (Int × Int)} {G : List Nat}
theorem FillSt.pool (h : FillSt B p w0 wr lv fv vr vg s RF G) (h2 : PoolIs w' 117 119 3 3 (fun (v : ByteArray) => [Value.string v]) p lv' fv' s') (hc : Chg (poolFp p lv fv) wr w') (hf : Fresh (poolFp p lv fv) (poolFp p lv' fv') wr) : FillSt B p w0 w' lv' fv' vr vg s' RF G :=
  ⟨h.po.step h2 hc hf, h.re.chg hc (fun x hx hm => h.a1 x hm hx), h.go.chg hc (fun x hx hm => h.a2 x hm hx), h.a1.fresh hf (fun x hx => (h.re.lt x hx).2), h.a2.fresh hf (fun x hx => (h.go.lt x hx).2), h.a3⟩
theorem FillSt.later (h : FillSt B p w0 wr lv fv vr vg s RF G) (hb : Below wr.heap.size wr w') : FillSt B p w0 w' lv fv vr vg s RF G :=
  ⟨h.po.later hb, h.re.later hb, h.go.later hb, h.a1, h.a2, h.a3⟩
theorem FillSt.alloc (h : FillSt B p w0 wr lv fv vr vg s RF G) (o : Obj) : FillSt B p w0 (wr.alloc o) lv fv vr vg s RF G := h.later ((Below.refl _ _).alloc (Nat.le_refl _) _)
theorem FillSt.drewN (h : FillSt B p w0 wr lv fv vr vg s RF G) (k : Nat) : FillSt B p w0 (wr.drewN k) lv fv vr vg s RF G := ⟨h.po.drewN k, h.re, h.go, h.a1, h.a2, h.a3⟩
theorem FillSt.pushR (h : FillSt B p w0 wr lv fv vr vg s RF G) (a b : Int) (ht : TabIs w' B 57 2 vr' ((RF.map fun r => [Value.int .i64 r.1, Value.int .i64 r.2]) ++ [#[Value.int .i64 a, Value.int .i64 b].toList])) (hc : Chg vr.ownBlock.toList wr w') (hf : Fresh vr.ownBlock.toList vr'.ownBlock.toList wr) : FillSt B p w0 w' lv fv vr' vg s (RF ++ [(a, b)]) G :=
  ⟨h.po.chg hc h.a1 (fun x hx => (h.re.lt x hx).1), by simpa using ht, h.go.chg hc (fun x hx hm => h.a3 x hm hx), (h.a1.symm.fresh hf (fun x hx => h.po.is.lt x hx)).symm, h.a2, h.a3.fresh hf (fun x hx => (h.go.lt x hx).2)⟩
theorem FillSt.pushG (h : FillSt B p w0 wr lv fv vr vg s RF G) (a : Nat) (ht : TabIs w' B 3 1 vg' ((G.map fun (i : Nat) => [Value.int .i64 (i : Int)]) ++ [#[Value.int .i64 (a : Int)].toList])) (hc : Chg vg.ownBlock.toList wr w') (hf : Fresh vg.ownBlock.toList vg'.ownBlock.toList wr) : FillSt B p w0 w' lv fv vr vg' s RF (G ++ [a]) :=
  ⟨h.po.chg hc h.a2 (fun x hx => (h.go.lt x hx).1), h.re.chg hc (fun x hx hm => h.a3 x hx hm), by simpa using ht, h.a1, (h.a2.symm.fresh hf (fun x hx => h.po.is.lt x hx)).symm, (h.a3.symm.fresh hf (fun x hx => (h.re.lt x hx).2)).symm⟩
end

theorem info_ref_ : (Try.prog.info? 57).map (fun i => (i.zero, i.size, i.bytes)) = some (some (.agg #[.int .i64 0, .int .i64 0]), 2, 16) := by kernel_rfl

/-- The pool with n places, G of them given back (the last one last), those of D taken again. -/
def filled (n : Nat) (G D : List Nat) : PSt ByteArray := ⟨n, (List.range n).map fun j => if j ∈ G then ⟨1, false, ⟨#[]⟩⟩ else if j ∈ D then ⟨2, true, ⟨#[122]⟩⟩ else ⟨1, true, ⟨#[120]⟩⟩, G⟩
/-- So many are taken. -/
def filling (n i : Nat) : PSt ByteArray := ⟨n, (List.range i).map fun _ => ⟨1, true, ⟨#[120]⟩⟩, []⟩
theorem filling_len (n i : Nat) : (filling n i).l.length = i := by simp [filling]
theorem filling_next (n i : Nat) : (filling n i).fresh ⟨#[120]⟩ = filling n (i + 1) := by simp [filling, PSt.fresh, List.range_succ]
theorem filling_full (n : Nat) : filling n n = filled n [] [] := by simp [filling, filled]
theorem filled_len (n : Nat) (G D : List Nat) : (filled n G D).l.length = n := by simp [filled]
theorem filled_get (n : Nat) (G D : List Nat) (j : Nat) (h : j < n) : (filled n G D).l[j]? = some (if j ∈ G then ⟨1, false, ⟨#[]⟩⟩ else if j ∈ D then ⟨2, true, ⟨#[122]⟩⟩ else ⟨1, true, ⟨#[120]⟩⟩) := by simp [filled, h]
theorem range_set {α : Type} (n k : Nat) (f f' : Nat → α) (h : ∀ j, j ≠ k → f' j = f j) : ((List.range n).map f).set k (f' k) = (List.range n).map f' := by
  apply List.ext_getElem?
  intro j
  by_cases hj : j = k
  · subst hj
    by_cases hn : j < n
    · rw [List.getElem?_set_self (by simpa using hn)]; simp [hn]
    · rw [List.getElem?_eq_none (by simp; omega), List.getElem?_eq_none (by simp; omega)]
  · rw [List.getElem?_set_ne (fun e => hj e.symm)]
    by_cases hn : j < n
    · simp [hn, h j hj]
    · rw [List.getElem?_eq_none (by simp; omega), List.getElem?_eq_none (by simp; omega)]
theorem filled_give (n : Nat) (G : List Nat) (k : Nat) : (filled n G []).giveAt k ⟨1, true, ⟨#[120]⟩⟩ ⟨#[]⟩ = filled n (G ++ [k]) [] := by
  have h := range_set (α := Pl ByteArray) n k (fun j => if j ∈ G then ⟨1, false, ⟨#[]⟩⟩ else if j ∈ ([] : List Nat) then ⟨2, true, ⟨#[122]⟩⟩ else ⟨1, true, ⟨#[120]⟩⟩) (fun j => if j ∈ G ++ [k] then ⟨1, false, ⟨#[]⟩⟩ else if j ∈ ([] : List Nat) then ⟨2, true, ⟨#[122]⟩⟩ else ⟨1, true, ⟨#[120]⟩⟩) (by intro j hj; simp [hj])
  simp only [List.mem_append, List.mem_singleton, or_true, if_true] at h
  simp only [filled, PSt.giveAt, List.mem_append, List.mem_singleton]
  rw [h]
theorem filled_retake (n : Nat) (G D : List Nat) (k : Nat) (hk : k ∉ G) : (filled n (G ++ [k]) D).retake k G ⟨1, false, ⟨#[]⟩⟩ ⟨#[122]⟩ = filled n G (k :: D) := by
  have h := range_set (α := Pl ByteArray) n k (fun j => if j ∈ G ++ [k] then ⟨1, false, ⟨#[]⟩⟩ else if j ∈ D then ⟨2, true, ⟨#[122]⟩⟩ else ⟨1, true, ⟨#[120]⟩⟩) (fun j => if j ∈ G then ⟨1, false, ⟨#[]⟩⟩ else if j ∈ k :: D then ⟨2, true, ⟨#[122]⟩⟩ else ⟨1, true, ⟨#[120]⟩⟩) (by intro j hj; simp [hj])
  simp only [hk, if_false, List.mem_cons, true_or, if_true] at h
  have w2 : wrap64 (1 + 1) = 2 := by simp [wrap64]
  simp only [filled, PSt.retake, w2, List.mem_cons]
  rw [h]
theorem filled_stale (n : Nat) (G : List Nat) (k : Nat) (hk : k < n) (hG : k ∈ G) : (filled n G []).look k 1 = 23 := by
  unfold PSt.look
  rw [filled_len, if_neg (by omega), Int.toNat_natCast, filled_get _ _ _ _ hk, if_pos hG]
  simp

theorem pool_fills (places : Int) (A1 : Option Addr) (n1 c1 : Nat) (G1 : Nat → Int) (w : World) (h1 : -9223372036854775808 ≤ places) (h2 : places ≤ 9223372036854775807) (hc1 : n1 ≤ 9223372036854775807)
    (hA1 : SlArg w w.heap.size A1 n1 1 fun j => .int .i64 (G1 j)) (hG : ∀ j, j < n1 → -9223372036854775808 ≤ G1 j ∧ G1 j ≤ 9223372036854775807) :
    Calls Try.prog 8 #[.int .i64 places, .slice A1 n1 c1] w fun e w' => e = .returned (.bool true) ∧ Below w.heap.size w w' := by
  have bd1 := within_bd places 1 40 (by omega)
  obtain ⟨n, hn⟩ : ∃ n : Nat, within places 1 40 = (n : Int) := ⟨(within places 1 40).toNat, by omega⟩
  rw [hn] at bd1
  have Hn := Lib.hid hn; clear hn
  have HA1 := Lib.hid hA1; clear hA1
  have HG := Lib.hid hG; clear hG
  refine callsR fun R hR => ?_
  go_enter Try.func8, Try.ntmps8
  go_wp2_with fail
  refine Calls.mono (within_any places 1 40 _ (by omega) (by omega) (by omega) h1 h2) ?_
  rintro e w0 ⟨he, rfl⟩
  rw [Hn.out] at he
  subst he
  go_wp2_with fail
  refine Calls.mono (pool_new_str n n _ (by omega)) ?_
  rintro e w1 ⟨p, rfl, r1, hp, hb1⟩
  have S1 : Hid (FillSt w.heap.size p w w1 (.slice none 0 0) (.slice none 0 0) (.slice none 0 0) (.slice none 0 0) (filling n 0) [] []) := Lib.hid ⟨PoolOwn.new r1 hp hb1 (Below.refl _ _) (Nat.le_refl _), TabIs.nil _ _ _ _, TabIs.nil _ _ _ _, by simp [Apart, Value.ownBlock], by simp [Apart, Value.ownBlock], by simp [Apart, Value.ownBlock]⟩
  clear r1 hb1
  go_wp2_with fail
  go_loopw [7, 8] (fun a i wr => ∃ (k : Nat) (lv fv : Value), k ≤ n ∧ i = .int .i64 k ∧ Hid (FillSt w.heap.size p w wr lv fv a (.slice none 0 0) (filling n k) ((List.range k).map fun (j : Nat) => ((j : Int), (1 : Int))) [])) (fun _ i _ => n - (intOf i).toNat)
  case atStart => exact ⟨0, _, _, by omega, rfl, S1⟩
  case round =>
    obtain ⟨k, lv, fv, hk, rfl, ST⟩ := hrel
    by_cases hlt : k < n
    · go_wp2_with fail
      refine Calls.mono (pool_take_fresh_str p lv fv (filling n k) ⟨#[120]⟩ _ (by exact ST.out.po.is) rfl (by rw [filling_len]; exact hlt)) ?_
      rw [filling_len, filling_next]
      rintro e w2 ⟨rfl, lv2, fv2, q1, q2, q3⟩
      have S2 := Lib.hid (ST.out.pool q1 q2 q3)
      clear q1 q2 q3
      have rb := S2.out.po.be.size
      go_wp2_with (at_builtin; refine wpList_push (by rfl) (.tmp 47) (.tmp 49) 54 (by rfl) w.heap.size 57 _ 2 16 Try.underlying54 info_ref_ (by rfl) (by decide) u7 _ #[.int .i64 k, .int .i64 1] (by rfl) (by exact (S2.out.alloc _).re) (by rw [World.size_alloc]; rfl) (by rfl) (by simp [Value.oneCell']) (by simp; omega) (by decide) (by rw [World.size_alloc]; omega) ?_; intro v' w' q1 q2 q3)
      have S3 := Lib.hid ((S2.out.alloc _).pushR k 1 q1 q2 q3)
      clear q1 q2 q3
      go_roundw
      case rel => exact ⟨k + 1, _, _, by omega, by go_num, by rw [List.range_succ, List.map_append]; exact S3⟩
      case measure => simp [intOf]; omega
    · have hkn : k = n := by omega
      subst hkn
      go_wp2_with fail
      refine Calls.mono (pool_take_full_str p lv fv (filling k k) ⟨#[121]⟩ _ (by exact ST.out.po.is) rfl (by rw [filling_len]; exact Nat.le_refl _)) ?_
      rintro e w2 ⟨rfl, hb2⟩
      rw [filling_full] at ST
      have S2 := Lib.hid (ST.out.later hb2)
      clear hb2 ST
      obtain ⟨Ar, cr, hu7, hcr, hAr⟩ := S2.out.re.form
      simp only [List.length_map, List.length_range] at hu7 hcr hAr
      obtain ⟨gr, rfl, hgr, hgr2⟩ := hAr (by omega)
      subst hu7
      have HN := Lib.hid hlt; clear hlt
      go_wp2_with fail
      go_loopw [13, 14] (fun a i wr => ∃ (j : Nat) (lv fv : Value) (G : List Nat), j ≤ k ∧ G.length ≤ j ∧ i = .int .i64 j ∧ Hid (FillSt w.heap.size p w wr lv fv (.slice (some ⟨gr, 0, none⟩) k cr) a (filled k G []) ((List.range k).map fun (j : Nat) => ((j : Int), (1 : Int))) G)) (fun _ i _ => k - (intOf i).toNat)
      case atStart => exact ⟨0, _, _, [], by omega, by simp, rfl, by first | exact S2 | exact Lib.hid (S2.out.alloc _)⟩
      case round =>
        obtain ⟨j, lv, fv, G, hj, hGl, rfl, ST⟩ := hrel
        by_cases hlt : j < n1 ∧ j < k
        · obtain ⟨hlt1, hlt2⟩ := hlt
          obtain ⟨b, off, rfl, hb, hcell⟩ := HA1.out (by omega)
          have ck : wr.cell? ⟨b, off + j, none⟩ = some (.int .i64 (G1 j)) := (ST.out.po.be.cell (p := ⟨b, off + j, none⟩) hb).trans (hcell j (by omega))
          have gb := HG.out j hlt1
          have bd := within_bd (G1 j) 0 ((k : Int) - 1) (by omega)
          obtain ⟨m, hm⟩ : ∃ m : Nat, within (G1 j) 0 ((k : Int) - 1) = (m : Int) := ⟨(within (G1 j) 0 ((k : Int) - 1)).toNat, by omega⟩
          rw [hm] at bd
          have hmk : m < k := by omega
          have Hm := Lib.hid hm; clear hm
          have hre : ((((List.range k).map fun (j : Nat) => ((j : Int), (1 : Int))).map fun r => [Value.int .i64 r.1, Value.int .i64 r.2]))[m]? = some [Value.int .i64 (m : Int), Value.int .i64 1] := by simp [hmk]
          have e0 : wr.cell? ⟨gr, m * 2, none⟩ = some (.int .i64 m) := ST.out.re.cell (j := 0) hre rfl
          have e1 : wr.cell? ⟨gr, m * 2 + 1, none⟩ = some (.int .i64 1) := ST.out.re.cell (j := 1) hre rfl
          have HC := Lib.hid hcell; clear hcell hre
          go_wp2_with fail
          refine Calls.mono (within_any (G1 j) 0 ((k : Int) - 1) _ (by omega) (by omega) (by omega) (by omega) (by omega)) ?_
          rintro e w0 ⟨he, rfl⟩
          rw [Hm.out] at he
          subst he
          by_cases hmG : m ∈ G
          · have Hst := Lib.hid (filled_stale k G m hmk hmG); clear hmG
            go_wp2_with fail
            refine Calls.mono (pool_give_bad_str p lv fv (filled k G []) m 1 23 _ (by exact ST.out.po.is) Hst.out (by decide)) ?_
            rintro e w3 ⟨rfl, hb3⟩
            have S3 := Lib.hid (ST.out.later hb3)
            clear hb3 e0 e1 ck
            go_wp2_with fail
            go_roundw
            case rel => exact ⟨j + 1, _, _, G, by omega, by omega, by go_num, S3⟩
            case measure => simp [intOf]; omega
          · have hx := filled_get k G [] m hmk
            rw [if_neg hmG, if_neg (by simp)] at hx
            have HX := Lib.hid hx; clear hx
            have HMG := Lib.hid hmG; clear hmG
            obtain ⟨Al, cl, rfl, hcl, hAl⟩ := ST.out.po.is.lform
            have hfl := filled_len k G []
            obtain ⟨gl, rfl, hgl⟩ := hAl (by omega)
            have HFL := Lib.hid hfl; clear hfl hAl hcl
            go_wp2_with fail
            refine Calls.mono (pool_give_ok_str p _ fv (filled k G []) m ⟨1, true, ⟨#[120]⟩⟩ _ (by exact ST.out.po.is) HX.out rfl (by decide)) ?_
            rw [filled_give]
            rintro e w3 ⟨rfl, fv3, q1, q2, q3⟩
            have S3 := Lib.hid (ST.out.pool q1 q2 q3)
            have hs3 := S3.out.po.be.size
            clear q1 q2 q3 e0 e1 ck
            go_wp2_with (at_builtin; refine wpList_push (by rfl) (.tmp 85) (.tmp 87) 43 (by rfl) w.heap.size 3 _ 1 8 Try.underlying43 info_int_ (by rfl) (by decide) u13 _ #[.int .i64 m] (by rfl) (by exact S3.out.go) (by rfl) (by rfl) (by simp [Value.oneCell']) (by simp; omega) (by decide) (by omega) ?_; intro v' w' q1 q2 q3)
            have S4 := Lib.hid (S3.out.pushG m q1 q2 q3)
            clear q1 q2 q3
            go_roundw
            case rel => exact ⟨j + 1, _, _, G ++ [m], by omega, by simp; omega, by go_num, S4⟩
            case measure => simp [intOf]; omega
        · obtain ⟨Ag, cg, hu13, hcg, hAg⟩ := ST.out.go.form
          simp only [List.length_map] at hu13 hcg hAg
          subst hu13
          by_cases hlt1 : j < n1
          · have hd2 : decide ((j : Int) < (k : Int)) = false := by simp; omega
            have hd3 : ¬ (j < k) := by omega
            clear hlt
            have SG := ST
            go_wp2_with fail
            go_loopw [18] (fun i wr => ∃ (m : Nat) (lv fv : Value) (D : List Nat), m ≤ G.length ∧ i = .int .i64 ((m : Int) - 1) ∧ Hid (FillSt w.heap.size p w wr lv fv (.slice (some ⟨gr, 0, none⟩) k cr) (.slice Ag G.length cg) (filled k (G.take m) D) ((List.range k).map fun (j : Nat) => ((j : Int), (1 : Int))) G)) (fun i _ => (intOf i + 1).toNat)
            case atStart => exact ⟨G.length, _, _, [], by omega, by go_num, by rw [List.take_length]; exact ST⟩
            case round =>
              obtain ⟨m, lv, fv, D, hm, hi, ST⟩ := hrel
              cases m with
              | zero =>
                subst hi
                go_wp2_with fail
                refine Calls.mono (pool_take_full_str p lv fv (filled k (G.take 0) D) ⟨#[121]⟩ _ (by exact ST.out.po.is) rfl (by rw [filled_len]; exact Nat.le_refl _)) ?_
                rintro e w4 ⟨rfl, hb4⟩
                have S4 := Lib.hid (ST.out.later hb4)
                clear hb4
                go_wp2_with fail
                refine Calls.mono (pool_len_str p lv fv (filled k (G.take 0) D) _ (by first | exact S4.out.po.is | exact (S4.out.alloc _).po.is)) ?_
                rw [filled_len, show ((filled k (G.take 0) D).free.length : Int) = 0 from rfl]
                rintro e w5 ⟨rfl, k5, rfl⟩
                go_wp2_with fail
                refine Calls.mono (pool_known _) ?_
                rintro e w6 ⟨rfl, hb6⟩
                have B6 := Lib.hid hb6; clear hb6
                go_wp2_with fail
                have hbe := ((S4.out.alloc (.cells #[.int .i64 0, .int .i64 0] 57)).drewN k5).po.be
                exact hR.out _ _ ⟨rfl, hbe.trans (B6.out.mono hbe.size)⟩
              | succ m =>
                rw [show (((m + 1 : Nat) : Int) - 1) = (m : Int) by omega] at hi
                subst hi
                obtain ⟨g, hg⟩ : ∃ g, G[m]? = some g := ⟨_, List.getElem?_eq_getElem (by omega)⟩
                have htk : G.take (m + 1) = G.take m ++ [g] := by rw [List.take_add_one, hg]; rfl
                rw [htk] at ST
                have hnd := ST.out.po.is.wf.nodup
                have hgm : g ∉ G.take m := fun hmem => by
                  have := List.nodup_append.1 (show (G.take m ++ [g]).Nodup from hnd)
                  exact this.2.2 g hmem g (by simp) rfl
                have hgk : g < k := by
                  obtain ⟨x, hx, _⟩ := ST.out.po.is.wf.free_lt (i := g) (by show g ∈ G.take m ++ [g]; simp)
                  have := (List.getElem?_eq_some_iff.1 hx).1
                  rwa [filled_len] at this
                have hx := filled_get k (G.take m ++ [g]) D g hgk
                rw [if_pos (by simp)] at hx
                have HX := Lib.hid hx
                have HGM := Lib.hid hgm
                obtain ⟨ga, rfl, hga, _⟩ := hAg (by omega)
                clear hnd hgm hx htk
                go_wp2_with fail
                refine Calls.mono (pool_take_back_str p lv fv (filled k (G.take m ++ [g]) D) ⟨#[122]⟩ g (G.take m) ⟨1, false, ⟨#[]⟩⟩ _ (by exact ST.out.po.is) rfl HX.out) ?_
                rw [filled_retake k (G.take m) D g HGM.out, show wrap64 ((⟨1, false, ⟨#[]⟩⟩ : Pl ByteArray).gen + 1) = 2 from by simp [wrap64]]
                rintro e w4 ⟨rfl, lv4, fv4, q1, q2, q3⟩
                have S4 := Lib.hid (ST.out.pool q1 q2 q3)
                clear q1 q2 q3
                have eg : w4.cell? ⟨ga, m, none⟩ = some (.int .i64 g) := by
                  have := S4.out.go.cell (i := m) (j := 0) (r := [Value.int .i64 (g : Int)]) (u := .int .i64 g) (by rw [List.getElem?_map, hg]; rfl) rfl
                  simpa using this
                have lg := (S4.out.go.lt ga (by simp [Value.ownBlock])).2
                go_wp2_with fail
                go_quiet (fail)
                go_wp2_with fail
                go_roundw
                case rel => exact ⟨m, _, _, g :: D, by omega, by go_num, Lib.hid ((S4.out.alloc _).drewN _)⟩
                case measure => simp [intOf] <;> omega
          · have hd1 : decide ((j : Int) < (n1 : Int)) = false := by simp; omega
            clear hlt
            have SG := ST
            go_wp2_with fail
            go_loopw [18] (fun i wr => ∃ (m : Nat) (lv fv : Value) (D : List Nat), m ≤ G.length ∧ i = .int .i64 ((m : Int) - 1) ∧ Hid (FillSt w.heap.size p w wr lv fv (.slice (some ⟨gr, 0, none⟩) k cr) (.slice Ag G.length cg) (filled k (G.take m) D) ((List.range k).map fun (j : Nat) => ((j : Int), (1 : Int))) G)) (fun i _ => (intOf i + 1).toNat)
            case atStart => exact ⟨G.length, _, _, [], by omega, by go_num, by rw [List.take_length]; exact ST⟩
            case round =>
              obtain ⟨m, lv, fv, D, hm, hi, ST⟩ := hrel
              cases m with
              | zero =>
                subst hi
                go_wp2_with fail
                refine Calls.mono (pool_take_full_str p lv fv (filled k (G.take 0) D) ⟨#[121]⟩ _ (by exact ST.out.po.is) rfl (by rw [filled_len]; exact Nat.le_refl _)) ?_
                rintro e w4 ⟨rfl, hb4⟩
                have S4 := Lib.hid (ST.out.later hb4)
                clear hb4
                go_wp2_with fail
                refine Calls.mono (pool_len_str p lv fv (filled k (G.take 0) D) _ (by first | exact S4.out.po.is | exact (S4.out.alloc _).po.is)) ?_
                rw [filled_len, show ((filled k (G.take 0) D).free.length : Int) = 0 from rfl]
                rintro e w5 ⟨rfl, k5, rfl⟩
                go_wp2_with fail
                refine Calls.mono (pool_known _) ?_
                rintro e w6 ⟨rfl, hb6⟩
                have B6 := Lib.hid hb6; clear hb6
                go_wp2_with fail
                have hbe := ((S4.out.alloc (.cells #[.int .i64 0, .int .i64 0] 57)).drewN k5).po.be
                exact hR.out _ _ ⟨rfl, hbe.trans (B6.out.mono hbe.size)⟩
              | succ m =>
                rw [show (((m + 1 : Nat) : Int) - 1) = (m : Int) by omega] at hi
                subst hi
                obtain ⟨g, hg⟩ : ∃ g, G[m]? = some g := ⟨_, List.getElem?_eq_getElem (by omega)⟩
                have htk : G.take (m + 1) = G.take m ++ [g] := by rw [List.take_add_one, hg]; rfl
                rw [htk] at ST
                have hnd := ST.out.po.is.wf.nodup
                have hgm : g ∉ G.take m := fun hmem => by
                  have := List.nodup_append.1 (show (G.take m ++ [g]).Nodup from hnd)
                  exact this.2.2 g hmem g (by simp) rfl
                have hgk : g < k := by
                  obtain ⟨x, hx, _⟩ := ST.out.po.is.wf.free_lt (i := g) (by show g ∈ G.take m ++ [g]; simp)
                  have := (List.getElem?_eq_some_iff.1 hx).1
                  rwa [filled_len] at this
                have hx := filled_get k (G.take m ++ [g]) D g hgk
                rw [if_pos (by simp)] at hx
                have HX := Lib.hid hx
                have HGM := Lib.hid hgm
                obtain ⟨ga, rfl, hga, _⟩ := hAg (by omega)
                clear hnd hgm hx htk
                go_wp2_with fail
                refine Calls.mono (pool_take_back_str p lv fv (filled k (G.take m ++ [g]) D) ⟨#[122]⟩ g (G.take m) ⟨1, false, ⟨#[]⟩⟩ _ (by exact ST.out.po.is) rfl HX.out) ?_
                rw [filled_retake k (G.take m) D g HGM.out, show wrap64 ((⟨1, false, ⟨#[]⟩⟩ : Pl ByteArray).gen + 1) = 2 from by simp [wrap64]]
                rintro e w4 ⟨rfl, lv4, fv4, q1, q2, q3⟩
                have S4 := Lib.hid (ST.out.pool q1 q2 q3)
                clear q1 q2 q3
                have eg : w4.cell? ⟨ga, m, none⟩ = some (.int .i64 g) := by
                  have := S4.out.go.cell (i := m) (j := 0) (r := [Value.int .i64 (g : Int)]) (u := .int .i64 g) (by rw [List.getElem?_map, hg]; rfl) rfl
                  simpa using this
                have lg := (S4.out.go.lt ga (by simp [Value.ownBlock])).2
                go_wp2_with fail
                go_quiet (fail)
                go_wp2_with fail
                go_roundw
                case rel => exact ⟨m, _, _, g :: D, by omega, by go_num, Lib.hid ((S4.out.alloc _).drewN _)⟩
                case measure => simp [intOf] <;> omega
end Go.Proofs.Ytjabofofofddbaa
