import Derived.Test.YtognmhgdegpdiaaSlotsChA
import Derived.Test.YtognmhgdegpdiaaSlotsKnown
import Derived.Test.YtognmhgdegpdiaaPoolACV
import Derived.Test.YtognmhgdegpdiaaPoolER
import Derived.Test.YtognmhgdegpdiaaBook
import Derived.Test.YtognmhgdegpdiaaSlotsStA
section
/- The statement SlotsChains: the table of heaps' numbers in memory. -/
namespace Go.Proofs.Ytognmhgdegpdiaa
open Go.RowKit
set_option linter.unusedVariables false
set_option linter.unusedSimpArgs false
set_option maxRecDepth 100000

def refsL (k : Nat) : List (Int × Int) := (List.range k).map fun (i : Nat) => ((i : Int), (1 : Int))
theorem refsL_succ (k : Nat) : refsL (k + 1) = refsL k ++ [((k : Int), 1)] := by simp [refsL, List.range_succ]
theorem refsL_len (k : Nat) : (refsL k).length = k := by simp [refsL]
theorem refsL_at {k i : Nat} (h : i < k) : (refsL k)[i]? = some ((i : Int), 1) := by simp [refsL, h]
def natRows (L : List Nat) : List (List Value) := L.map fun (b : Nat) => [Value.int .i64 (b : Int)]
theorem natRows_len (L : List Nat) : (natRows L).length = L.length := by simp [natRows]
theorem tab_made_int (w : World) (n : Nat) (hn : n ≤ 1000000) : TabIs (w.alloc (.cells (madeCells #[Value.int .i64 0] n) 3)) 0 3 1 (.slice (some ⟨w.heap.size, 0, none⟩) n n) (natRows (List.replicate n 0)) := by
  have hs : (madeCells #[Value.int .i64 0] n).size = n := size_madeCells _ _
  refine ⟨(madeCells #[Value.int .i64 0] n).toList, ?_, ?_, ?_⟩
  · rw [natRows_len, List.length_replicate]
    refine ⟨by simp [hs], .inr ⟨w.heap.size, n, _, rfl, Nat.zero_le _, Blk.new w _ _, Nat.le_refl _, by unfold maxLen; omega, by simp [hs], ?_⟩⟩
    rw [List.take_of_length_le (by simp [hs])]
  · intro c hc
    obtain ⟨b, _, rfl⟩ := List.mem_map.1 hc
    rfl
  · intro i c hi j u hj
    rw [natRows, List.map_replicate] at hi
    obtain ⟨hi1, hi2⟩ := List.getElem?_eq_some_iff.1 hi
    simp at hi1 hi2
    subst hi2
    have : j = 0 := by have := (List.getElem?_eq_some_iff.1 hj).1; simpa using this
    subst this
    simp at hj
    subst hj
    simp [madeCells, hi1, Nat.mod_one]
section
variable {B : Nat} {w0 w : World} {A C : List Ent} {g n c i : Nat} {L : List Nat} {q : Nat}
theorem led_nat (h : Led B w0 w (A ++ tabE 3 1 (.slice (some ⟨g, 0, none⟩) n c) (natRows L) :: C)) (hi : L[i]? = some q) (b : Nat) : Led B w0 (w.setCell ⟨g, i, none⟩ (.int .i64 b)) (A ++ tabE 3 1 (.slice (some ⟨g, 0, none⟩) n c) (natRows (L.set i b)) :: C) := by
  have hT : TabIs w 0 3 1 (.slice (some ⟨g, 0, none⟩) n c) (natRows L) := h.mem
  have h1 := hT.set (i := i) (j := 0) (r := [.int .i64 q]) (.int .i64 b) (by rw [natRows, List.getElem?_map, hi]; rfl) (by decide)
  rw [Nat.mul_one, Nat.add_zero] at h1
  exact h.mid _ ((Chg.refl _ _).setCell (p := ⟨g, i, none⟩) (.inl (by simp [tabE, Value.ownBlock])) (.int .i64 b)) (by simpa [tabE, natRows, List.map_set] using h1) (Fresh.refl _ _)
theorem nat_cell (h : TabIs w 0 3 1 (.slice (some ⟨g, 0, none⟩) n c) (natRows L)) (hi : L[i]? = some q) : w.cell? ⟨g, i, none⟩ = some (.int .i64 q) :=
  tab1_cell h (by rw [natRows, List.getElem?_map, hi]; rfl)
end

/-- While heaps are made: k of them. -/
structure ChUp (k : Nat) (sh si : PSt V3) (f : Int → Option (Int × Int)) : Prop where
  heaps : sh = ⟨64, hpL k, []⟩
  items : si = ⟨40, itL (List.range k), []⟩
  free : ∀ c, 100 + (k : Int) ≤ c → f c = none
theorem hpL_succ (k : Nat) : hpL (k + 1) = hpL k ++ [⟨1, true, ⟨1, -1, 0⟩⟩] := List.replicate_succ'
theorem ChUp.start : ChUp 0 ⟨64, [], []⟩ ⟨40, [], []⟩ (fun _ => none) := ⟨rfl, rfl, fun _ _ => rfl⟩
theorem ChUp.make {k : Nat} {sh si sh' : PSt V3} {f : Int → Option (Int × Int)} {a g e0 : Int} (h : ChUp k sh si f) (hk : k < 12) (hm : MakeR sh 1 a g e0 sh') : a = k ∧ g = 1 ∧ e0 = 0 ∧ sh' = ⟨64, hpL (k + 1), []⟩ := by
  rcases hm with ⟨h1, _⟩ | ⟨_, ok, ht, rfl⟩
  · simp at h1
  · rw [h.heaps] at ht
    have hl : (hpL k).length = k := by simp [hpL]
    rcases ht with ⟨_, h1, _⟩ | ⟨_, _, h1, rfl, rfl, rfl⟩ | ⟨i, fs, x, h1, _⟩
    · simp only [hl] at h1; omega
    · simp only [hl] at h1
      exact ⟨h1, rfl, rfl, by rw [hpL_succ]; rfl⟩
    · simp at h1
theorem ChUp.put {k : Nat} {si si' : PSt V3} {f f' : Int → Option (Int × Int)} {u v e0 : Int} (hs : si = ⟨40, itL (List.range k), []⟩) (hf : ∀ c, 100 + (k : Int) ≤ c → f c = none) (hk : k < 12) (hp : PutR ⟨64, hpL (k + 1), []⟩ si f k 1 (100 + (k : Int)) u v e0 si' f') :
    u = k ∧ v = 1 ∧ e0 = 0 ∧ ChUp (k + 1) ⟨64, hpL (k + 1), []⟩ si' f' := by
  have hl : (itL (List.range k)).length = k := by rw [itL_len, List.length_range]
  rcases hp with ⟨h1, h2, _⟩ | ⟨i, x, hi, hg, hx, _, _, hp⟩
  · have := look_ok (s := ⟨64, hpL (k + 1), []⟩) (hpL_get (Nat.lt_succ_self k)) rfl (by decide)
    exact absurd (h2.symm.trans this) h1
  · subst hs
    rcases hp with ⟨h1, _⟩ | ⟨_, h1, _⟩ | ⟨_, _, rfl, ht, rfl⟩
    · simp only [hl, List.length_nil] at h1; omega
    · rw [hf _ (Int.le_refl _)] at h1; cases h1
    · rcases ht with ⟨_, _, _, _, h1, _⟩ | ⟨_, _, h1, rfl, _, rfl⟩ | ⟨i, fs, x, h1, _⟩
      · cases h1
      · simp only [hl] at h1
        refine ⟨h1, rfl, rfl, rfl, ?_, fun c hc => ?_⟩
        · rw [List.range_succ, itL_snoc, List.length_range]
          rfl
        · unfold upd
          rw [if_neg (by omega)]
          exact hf c (by omega)
      · simp at h1
theorem ChUp.done {sh si : PSt V3} {f : Int → Option (Int × Int)} (h : ChUp 12 sh si f) : ChInv (List.range 12) sh si :=
  ⟨by simp, fun j hj => List.mem_range.1 hj, h.items, fun j hj => by rw [h.heaps]; exact hpL_get (List.mem_range.1 hj)⟩
theorem turn_set {al M : List Nat} {k m : Nat} (hl : M.length = al.length) (hk : k < al.length) (hm : M[k]? = some m) : (M.take k ++ al.drop k).set k m = M.take (k + 1) ++ al.drop (k + 1) := by
  have h1 : (M.take k).length = k := by rw [List.length_take]; omega
  rw [List.set_append_right _ _ (by omega), h1, Nat.sub_self, List.drop_eq_getElem_cons hk, List.set_cons_zero, List.take_add_one, hm, List.append_assoc]
  rfl
theorem turn_at {al M : List Nat} {k : Nat} (hl : M.length = al.length) (hk : k < al.length) : (M.take k ++ al.drop k)[k]? = al[k]? := by
  have h1 : (M.take k).length = k := by rw [List.length_take]; omega
  rw [List.getElem?_append_right (by omega), h1, Nat.sub_self, List.getElem?_drop, Nat.add_zero]
theorem turn_same {al M : List Nat} {k m : Nat} (hl : M.length = al.length) (hk : k < al.length) (hm : M[k]? = some m) (ha : al[k]? = some m) : M.take k ++ al.drop k = M.take (k + 1) ++ al.drop (k + 1) := by
  rw [← turn_set hl hk hm]
  refine List.ext_getElem? fun i => ?_
  by_cases hi : k = i
  · subst hi
    have h2 : k < (M.take k ++ al.drop k).length := by rw [List.length_append, List.length_take, List.length_drop]; omega
    rw [List.getElem?_set_self h2, turn_at hl hk, ha]
  · rw [List.getElem?_set_ne hi]
theorem turn_now {al M : List Nat} {k m : Nat} (hl : M.length = al.length) (hk : k < al.length) (hm : M[k]? = some m) : (M.take (k + 1) ++ al.drop (k + 1))[k]? = some m := by
  rw [List.getElem?_append_left (by rw [List.length_take]; omega), List.getElem?_take_of_lt (by omega)]
  exact hm
end Go.Proofs.Ytognmhgdegpdiaa

end
section
/- The statement SlotsStale: the table of what is gone in memory. -/
namespace Go.Proofs.Ytognmhgdegpdiaa
open Go.RowKit
set_option linter.unusedVariables false
set_option linter.unusedSimpArgs false
set_option maxRecDepth 100000

def boolRows (L : List Bool) : List (List Value) := L.map fun b => [Value.bool b]
theorem boolRows_len (L : List Bool) : (boolRows L).length = L.length := by simp [boolRows]
theorem tab_made (w : World) (n : Nat) (hn : n ≤ 1000000) : TabIs (w.alloc (.cells (madeCells #[Value.bool false] n) 4)) 0 4 1 (.slice (some ⟨w.heap.size, 0, none⟩) n n) (boolRows (List.replicate n false)) := by
  have hs : (madeCells #[Value.bool false] n).size = n := size_madeCells _ _
  refine ⟨(madeCells #[Value.bool false] n).toList, ?_, ?_, ?_⟩
  · rw [boolRows_len, List.length_replicate]
    refine ⟨by simp [hs], .inr ⟨w.heap.size, n, _, rfl, Nat.zero_le _, Blk.new w _ _, Nat.le_refl _, by unfold maxLen; omega, by simp [hs], ?_⟩⟩
    rw [List.take_of_length_le (by simp [hs])]
  · intro c hc
    obtain ⟨b, _, rfl⟩ := List.mem_map.1 hc
    rfl
  · intro i c hi j u hj
    rw [boolRows, List.map_replicate] at hi
    obtain ⟨hi1, hi2⟩ := List.getElem?_eq_some_iff.1 hi
    simp at hi1 hi2
    subst hi2
    have : j = 0 := by have := (List.getElem?_eq_some_iff.1 hj).1; simpa using this
    subst this
    simp at hj
    subst hj
    simp [madeCells, hi1, Nat.mod_one]

section
variable {B : Nat} {w0 w : World} {A C : List Ent} {g n c i : Nat} {L : List Bool} {q : Bool}
theorem led_bool (h : Led B w0 w (A ++ tabE 4 1 (.slice (some ⟨g, 0, none⟩) n c) (boolRows L) :: C)) (hi : L[i]? = some q) (b : Bool) : Led B w0 (w.setCell ⟨g, i, none⟩ (.bool b)) (A ++ tabE 4 1 (.slice (some ⟨g, 0, none⟩) n c) (boolRows (L.set i b)) :: C) := by
  have hT : TabIs w 0 4 1 (.slice (some ⟨g, 0, none⟩) n c) (boolRows L) := h.mem
  have h1 := hT.set (i := i) (j := 0) (r := [.bool q]) (.bool b) (by rw [boolRows, List.getElem?_map, hi]; rfl) (by decide)
  rw [Nat.mul_one, Nat.add_zero] at h1
  exact h.mid _ ((Chg.refl _ _).setCell (p := ⟨g, i, none⟩) (.inl (by simp [tabE, Value.ownBlock])) (.bool b)) (by simpa [tabE, boolRows, List.map_set] using h1) (Fresh.refl _ _)
theorem bool_cell (h : TabIs w 0 4 1 (.slice (some ⟨g, 0, none⟩) n c) (boolRows L)) (hi : L[i]? = some q) : w.cell? ⟨g, i, none⟩ = some (.bool q) :=
  tab1_cell h (by rw [boolRows, List.getElem?_map, hi]; rfl)
end

def gL (n : Nat) (G : Nat → Bool) : List Bool := (List.range n).map G
theorem gL_at {n i : Nat} {G : Nat → Bool} (h : i < n) : (gL n G)[i]? = some (G i) := by simp [gL, h]
theorem gL_set {n k : Nat} {G : Nat → Bool} (h : k < n) : (gL n G).set k true = gL n (fun i => G i || (i == k)) := by
  refine List.ext_getElem? fun i => ?_
  by_cases hi : i < n
  · by_cases hik : k = i
    · subst hik
      rw [List.getElem?_set_self (by simp [gL, h]), gL_at hi]
      simp
    · rw [List.getElem?_set_ne hik, gL_at hi, gL_at hi]
      have : (i == k) = false := by simp; omega
      rw [this, Bool.or_false]
  · rw [List.getElem?_eq_none (by simp [gL]; omega), List.getElem?_eq_none (by simp [gL]; omega)]
theorem gL_false (n : Nat) : gL n (fun _ => false) = List.replicate n false := by
  refine List.ext_getElem? fun i => ?_
  by_cases hi : i < n
  · rw [gL_at hi, List.getElem?_replicate, if_pos hi]
  · rw [List.getElem?_eq_none (by simp [gL]; omega), List.getElem?_eq_none (by simp; omega)]
theorem EndR.bad {sh si sh' si' : PSt V3} {f f' : Int → Option (Int × Int)} {a g e e0 : Int} (hl : sh.look a g = e) (he : e ≠ 0) (h : EndR sh si f a g e0 sh' si' f') : e0 = e ∧ sh' = sh ∧ si' = si ∧ f' = f := by
  rcases h with ⟨_, h2, h3, h4, h5⟩ | ⟨i, x, rfl, rfl, hx, ht, hg, _⟩
  · exact ⟨h2.symm.trans hl, h3, h4, h5⟩
  · exact absurd (hl.symm.trans (look_ok hx ht hg)) he
end Go.Proofs.Ytognmhgdegpdiaa

end
