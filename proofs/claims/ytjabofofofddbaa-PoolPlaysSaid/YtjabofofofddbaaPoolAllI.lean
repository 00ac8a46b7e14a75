/- The pool of int64: All. -/
import Derived.Test.YtjabofofofddbaaPoolAll
import Derived.Test.YtjabofofofddbaaPoolI64b
namespace Go.Proofs.Ytjabofofofddbaa
open Go.RowKit
set_option linter.unusedVariables false
set_option linter.unusedSimpArgs false
set_option maxRecDepth 100000
theorem pool_all_i64 (p : Nat) (lv fv : Value) (s : PSt Int) (B : Nat) (w0 w : World) (i : Nat) (es : List Ent) (h : Led B w0 w es) (hi : es[i]? = some (poolE 132 143 3 3 (fun (v : Int) => [Value.int .i64 v]) p lv fv s)) :
    Calls Try.prog 74 #[.pointer (some ⟨p, 0, none⟩)] w fun e w' => ∃ v, e = .returned v ∧ Led B w0 w' (tabE 57 2 v (rowsR (allTo s.l s.l.length)) :: es) := by
  have hP : PoolIs w 132 143 3 3 (fun (v : Int) => [Value.int .i64 v]) p lv fv s := h.at_ i hi
  have hm : s.l.length ≤ 65536 := Nat.le_trans hP.wf.le hP.wf.most
  obtain ⟨A, c, rfl, hc, hA⟩ := hP.lform
  have d1 := hP.blk.cell 1
  simp only [List.getElem?_toArray, List.getElem?_cons_zero, List.getElem?_cons_succ] at d1
  have S := Lib.hid (h.add (tabE 57 2 (.slice none 0 0) (rowsR (allTo s.l 0))) (Below.refl _ _) (TabIs.nil _ _ _ _) (by simp [tabE, Value.ownBlock])); clear h hP
  have HI := Lib.hid hi; clear hi
  refine callsR fun R hR => ?_
  go_enter Try.func74, Try.ntmps74
  go_wp2_with fail
  clear d1
  go_loopw [3, 11] (fun a i wx => ∃ j : Nat, j ≤ s.l.length ∧ i = .int .i64 j ∧ Hid (Led B w0 wx (tabE 57 2 a (rowsR (allTo s.l j)) :: es))) (fun _ i _ => s.l.length - (intOf i).toNat)
  case atStart => exact ⟨0, by omega, rfl, S⟩
  case round =>
    clear S
    obtain ⟨j, hj, rfl, S⟩ := hrel
    have hP : PoolIs wr 132 143 3 3 (fun (v : Int) => [Value.int .i64 v]) p (.slice A s.l.length c) fv s := S.out.tail.at_ i HI.out
    have HP := Lib.hid hP; clear hP
    by_cases hlt : j < s.l.length
    · obtain ⟨g, rfl, hg⟩ := hA (by omega)
      obtain ⟨x, hx⟩ : ∃ x, s.l[j]? = some x := ⟨_, List.getElem?_eq_getElem hlt⟩
      have hL : (s.l.map (Pl.cells (fun (v : Int) => [Value.int .i64 v])))[j]? = some (Pl.cells (fun (v : Int) => [Value.int .i64 v]) x) := by rw [List.getElem?_map, hx]; rfl
      have e0 : wr.cell? ⟨g, j * 3, none⟩ = some (.int .i64 x.gen) := HP.out.tab.cell (j := 0) hL rfl
      have e1 : wr.cell? ⟨g, j * 3 + 1, none⟩ = some (.bool x.taken) := HP.out.tab.cell (j := 1) hL rfl
      have e2 : wr.cell? ⟨g, j * 3 + 2, none⟩ = some (let v := x.v; Value.int .i64 v) := HP.out.tab.cell (j := 2) hL rfl
      have e2 : wr.cell? ⟨g, j * 3 + 2, none⟩ = some (.int .i64 x.v) := HP.out.tab.cell (j := 2) hL rfl
      have HX := Lib.hid hx; clear hx hL
      cases ht : x.taken with
      | true =>
        rw [ht] at e1
        have hll : (rowsR (allTo s.l j)).length ≤ 1000000000 := by
          have := allTo_le s.l j
          simp [rowsR]
          omega
        have hT : TabIs wr 0 57 2 u3 (rowsR (allTo s.l j)) := S.out.at_ 0 rfl
        have HT := Lib.hid hT; clear hT
        go_wp2_with (at_builtin; refine wpList_push (by rfl) (.tmp 18) (.tmp 23) 54 (by rfl) 0 57 _ 2 16 Try.underlying54 info_ref_ (by rfl) (by decide) u3 _ #[.int .i64 j, .int .i64 x.gen] (by rfl) (by exact HT.out.alloc _) (by rw [World.size_alloc]; rfl) (by rfl) (one_ref _ _) hll (by decide) (Nat.zero_le _) ?_; intro v' w' q1 q2 q3)
        have S2 := Lib.hid ((S.out.alloc _).step 0 rfl (tabE 57 2 v' (rowsR (allTo s.l (j + 1)))) q2 (by rw [allTo_in HX.out ht]; simpa [rowsR, tabE] using q1) q3)
        clear q1 q2 q3
        go_roundw
        case rel => exact ⟨j + 1, by omega, by go_num, S2⟩
        case measure => simp [intOf]; omega
      | false =>
        rw [ht] at e1
        go_wp2_with fail
        go_roundw
        case rel => exact ⟨j + 1, by omega, by go_num, by rw [allTo_out HX.out ht]; exact Lib.hid (S.out.alloc _)⟩
        case measure => simp [intOf]; omega
    · obtain rfl : j = s.l.length := by omega
      go_wp2_with fail
      exact hR.out _ _ ⟨_, rfl, S.out⟩

end Go.Proofs.Ytjabofofofddbaa
