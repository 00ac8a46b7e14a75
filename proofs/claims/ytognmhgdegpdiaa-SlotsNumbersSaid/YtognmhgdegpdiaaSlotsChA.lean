import Derived.Test.YtognmhgdegpdiaaSlotsPQ
import Derived.Test.YtognmhgdegpdiaaSlotsD
/- The statement SlotsChains: the state as plain data. -/
namespace Go.Proofs.Ytognmhgdegpdiaa
open Go.RowKit
set_option linter.unusedVariables false
set_option linter.unusedSimpArgs false

theorem PSt.eq_of {α : Type} {s r : PSt α} (h1 : s.most = r.most) (h2 : s.l = r.l) (h3 : s.free = r.free) : s = r := by
  cases s; cases r; simp only at h1 h2 h3; subst h1; subst h2; subst h3; rfl

/-- The items, of each the heap that it is in. -/
def itL (al : List Nat) : List (Pl V3) := al.mapIdx fun (k : Nat) (a : Nat) => (⟨1, true, ⟨100 + (k : Int), (a : Int), 1⟩⟩ : Pl V3)
theorem itL_get (al : List Nat) (k : Nat) : (itL al)[k]? = (al[k]?).map fun a => ⟨1, true, ⟨100 + (k : Int), (a : Int), 1⟩⟩ := by
  unfold itL
  rw [List.getElem?_mapIdx]
theorem itL_len (al : List Nat) : (itL al).length = al.length := by unfold itL; simp
theorem itL_snoc (al : List Nat) (a : Nat) : itL (al ++ [a]) = itL al ++ [⟨1, true, ⟨100 + (al.length : Int), (a : Int), 1⟩⟩] := by
  unfold itL
  rw [List.mapIdx_append]
  simp

def hpL (n : Nat) : List (Pl V3) := List.replicate n ⟨1, true, ⟨1, -1, 0⟩⟩
theorem hpL_get {n k : Nat} (h : k < n) : (hpL n)[k]? = some ⟨1, true, ⟨1, -1, 0⟩⟩ := by
  unfold hpL
  rw [List.getElem?_replicate, if_pos h]

structure ChInv (al : List Nat) (sh si : PSt V3) : Prop where
  len : al.length = 12
  lt : ∀ j, j ∈ al → j < 12
  items : si = ⟨40, itL al, []⟩
  heaps : ∀ j, j ∈ al → sh.l[j]? = some ⟨1, true, ⟨1, -1, 0⟩⟩

theorem ChInv.gens {al : List Nat} {sh si : PSt V3} (h : ChInv al sh si) : GensOk si := fun i x hx _ => by
  rw [h.items] at hx
  simp only [itL_get] at hx
  cases hk : al[i]? with
  | none => rw [hk] at hx; cases hx
  | some a => rw [hk] at hx; simp only [Option.map_some, Option.some.injEq] at hx; subst hx; exact Int.le_refl 1

def subH (a b : Nat) (x : Nat) : Nat := if x = b then a else x

theorem ChInv.join {al : List Nat} {sh si sh' si' : PSt V3} {a b : Nat} {e0 : Int} (h : ChInv al sh si) (ha : a ∈ al) (hb : b ∈ al) (hj : JoinR sh si a 1 b 1 e0 sh' si') :
    (e0 == 0) = (a != b) ∧ ChInv (al.map (subH a b)) sh' si' := by
  have hA := h.heaps a ha
  have hB := h.heaps b hb
  have lA : sh.look a 1 = 0 := look_ok hA rfl (by decide)
  have lB : sh.look b 1 = 0 := look_ok hB rfl (by decide)
  rcases hj with ⟨h1, h2, _⟩ | ⟨_, h1, h2, _⟩ | ⟨i, k, x, y, hi, _, hk, _, hx, hy, _, _, _, _, hj⟩
  · exact absurd (h2.symm.trans lA) h1
  · exact absurd (h2.symm.trans lB) h1
  · obtain rfl : a = i := by omega
    obtain rfl : b = k := by omega
    rw [hA] at hx
    rw [hB] at hy
    injection hx with hx
    injection hy with hy
    subst hx
    subst hy
    rcases hj with ⟨h1, rfl, rfl, rfl⟩ | ⟨_, h1, _⟩ | ⟨h1, _, rfl, rfl, rfl⟩
    · have hab : a = b := by have := (refEq_true.1 h1).1; omega
      subst hab
      have hid : al.map (subH a a) = al := by
        have : ∀ x, x ∈ al → subH a a x = x := fun x _ => by unfold subH; split <;> omega
        rw [List.map_congr_left this, List.map_id']
      rw [hid]
      exact ⟨by simp, h⟩
    · exact absurd rfl h1
    · have hab : a ≠ b := fun e => by subst e; exact (refEq_false.1 h1) ⟨rfl, rfl⟩
      refine ⟨by simp [hab], by simp [h.len], ?_, ?_, ?_⟩
      · intro j hj
        obtain ⟨x, hx, rfl⟩ := List.mem_map.1 hj
        unfold subH
        split
        · exact h.lt a ha
        · exact h.lt x hx
      · have hs := putFold_same (a : Int) 1 (listQ si (b : Int) 1 (allTo si.l si.l.length)) si
        refine PSt.eq_of (hs.1.trans (by rw [h.items])) (List.ext_getElem? fun i => ?_) (hs.2.1.trans (by rw [h.items]))
        show (putAll (a : Int) 1 si (listQ si (b : Int) 1 (allTo si.l si.l.length))).l[i]? = _
        rw [putAll_get, itL_get, h.items]
        simp only
        rw [itL_get, List.getElem?_map]
        cases hk : al[i]? with
        | none => simp
        | some q =>
          simp only [Option.map_some]
          by_cases hq : q = b
          · subst hq
            simp [ofH, refEq, subH, putPl]
          · have : ¬ (q : Int) = (b : Int) := by omega
            simp [ofH, refEq, subH, putPl, this, hq]
      · intro j hj
        obtain ⟨x, hx, rfl⟩ := List.mem_map.1 hj
        have hne : subH a b x ≠ b := by unfold subH; split <;> omega
        simp only [PSt.giveAt]
        rw [List.getElem?_set_ne (Ne.symm hne)]
        unfold subH
        split
        · exact hA
        · exact h.heaps x hx
end Go.Proofs.Ytognmhgdegpdiaa
