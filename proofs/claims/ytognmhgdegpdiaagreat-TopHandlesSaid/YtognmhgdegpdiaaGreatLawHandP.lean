import Derived.Test.YtognmhgdegpdiaaGreatLawFull
import Derived.Test.YtognmhgdegpdiaaGreatPqQ
/- TopHandles: handles as plain data; tables of single values. -/
namespace Go.Proofs.YtognmhgdegpdiaaGreat
open Go.RowKit
open Go.Maps (Keyed)
set_option linter.unusedVariables false
set_option linter.unusedSimpArgs false
set_option maxRecDepth 100000
theorem wrap_small {q : Nat} (h : q ≤ 2000000) : wrap64 (q : Int) = (q : Int) := by unfold wrap64; omega
theorem tdiv3 (k : Nat) : (k : Int).tdiv 3 = ((k / 3 : Nat) : Int) := by rw [Int.tdiv_eq_ediv_of_nonneg (by omega)]; rfl
theorem tmod_nat (a b : Nat) : (a : Int).tmod (b : Int) = ((a % b : Nat) : Int) := by rw [Int.tmod_eq_emod_of_nonneg (by omega)]; rfl
theorem third_le {k q : Nat} (h : k / 3 = q) (hk : (0 : Int) ≤ (k : Int) ∧ (k : Int) ≤ 1048576) : q ≤ 2000000 := by omega
theorem setGet_self {α : Type} {l : List α} {i : Nat} {x : α} (h : l[i]? = some x) : l.set i x = l := by
  obtain ⟨h1, rfl⟩ := List.getElem?_eq_some_iff.1 h
  exact List.set_getElem_self h1
theorem info_i64_ : (Tryz.prog.info? 2).map (fun i => (i.zero, i.size, i.bytes)) = some (some (.int .i64 0), 1, 8) := by kernel_rfl
def oR (L : List Value) : List (List Value) := L.map fun x => [x]
def oT (T : TypeId) (v : Value) (L : List Value) : Ent := tabE T 1 v (oR L)
theorem oR_len (L : List Value) : (oR L).length = L.length := by simp [oR]
theorem oR_snoc (L : List Value) (x : Value) : oR L ++ [(#[x] : Array Value).toList] = oR (L ++ [x]) := by simp [oR]
section
variable {T : TypeId} {B : Nat} {w0 w w' : World} {A C : List Ent} {v v' x : Value} {L : List Value}
theorem oT_new (h : Led B w0 w (A ++ C)) : Led B w0 w (A ++ oT T (.slice none 0 0) [] :: C) :=
  h.insert (oT T (.slice none 0 0) []) (Below.refl _ _) (TabIs.nil _ _ _ _) (fun b hb => by simp [oT, tabE, Value.ownBlock] at hb)
theorem oT_tab (h : Led B w0 w (A ++ oT T v L :: C)) : TabIs w 0 T 1 v (oR L) := h.mem
theorem oT_form (h : TabIs w 0 T 1 v (oR L)) : ∃ A c, v = .slice A L.length c ∧ (0 < L.length → ∃ g, A = some ⟨g, 0, none⟩) := by
  obtain ⟨A, c, h1, _, h3⟩ := h.form
  rw [oR_len] at h1 h3
  exact ⟨A, c, h1, fun hp => let ⟨g, hg, _⟩ := h3 hp; ⟨g, hg⟩⟩
theorem oT_get {g n c i : Nat} (h : TabIs w 0 T 1 (.slice (some ⟨g, 0, none⟩) n c) (oR L)) (hi : L[i]? = some x) : w.cell? ⟨g, i, none⟩ = some x := by
  have := h.cell (i := i) (j := 0) (r := [x]) (by rw [oR, List.getElem?_map, hi]; rfl) rfl
  simpa using this
theorem oT_push (h : Led B w0 w (A ++ oT T v L :: C)) (h1 : TabIs w' 0 T 1 v' (oR L ++ [(#[x] : Array Value).toList])) (h2 : Chg v.ownBlock.toList w w') (h3 : Fresh v.ownBlock.toList v'.ownBlock.toList w) : Led B w0 w' (A ++ oT T v' (L ++ [x]) :: C) :=
  h.mid (oT T v' (L ++ [x])) h2 (by rw [oR_snoc] at h1; exact h1) h3
theorem oT_set {g n c i : Nat} (x : Value) (h : Led B w0 w (A ++ oT T (.slice (some ⟨g, 0, none⟩) n c) L :: C)) (hi : i < L.length) : Led B w0 (w.setCell ⟨g, i, none⟩ x) (A ++ oT T (.slice (some ⟨g, 0, none⟩) n c) (L.set i x) :: C) := by
  obtain ⟨r, hr⟩ : ∃ r, L[i]? = some r := ⟨_, List.getElem?_eq_getElem hi⟩
  have h2 := (oT_tab h).set (i := i) (j := 0) (r := [r]) x (by rw [oR, List.getElem?_map, hr]; rfl) (by omega)
  have e : (oR L).set i ([r].set 0 x) = oR (L.set i x) := by rw [oR, oR, List.map_set]; rfl
  rw [e, Nat.mul_one, Nat.add_zero] at h2
  exact h.mid (oT T (.slice (some ⟨g, 0, none⟩) n c) (L.set i x)) ((Chg.refl _ _).setCell (.inl (by simp [oT, tabE, Value.ownBlock])) _) h2 (Fresh.refl _ _)
end
structure HT where
  p : Int × Int
  b : Bool
  t : Int
def hP (T : List HT) : List (Int × Int) := T.map HT.p
def hB (T : List HT) : List Value := T.map fun t => .bool t.b
def hK (T : List HT) : List Value := T.map fun t => .int .i64 t.t
def IR.ref (r : IR) : Int × Int := ((r.at_ : Int), r.gen)
structure TInv (T : List HT) (L : List HR) (D : List (Int × Int)) : Prop where
  al : ((T.filter HT.b).map fun t => (t.p, t.t)).Perm ((itemsL L).map fun r => (r.ref, r.key))
  de : ∀ t ∈ T, t.b = false → t.p ∈ D
  kp : ∀ t ∈ T, 0 ≤ t.t
section
variable {T : List HT} {L L' : List HR} {D : List (Int × Int)} {t : HT} {r : IR}
theorem TInv.add (h : TInv T L D) (hr : (itemsL L').Perm (r :: itemsL L)) (hk : 0 ≤ r.key) : TInv (T ++ [⟨r.ref, true, r.key⟩]) L' D := by
  refine ⟨?_, fun t ht hb => ?_, fun t ht => ?_⟩
  · rw [List.filter_append, List.map_append]
    refine List.Perm.trans ?_ (hr.map _).symm
    rw [List.map_cons]
    exact (h.al.append_right _).trans (List.perm_append_singleton _ _)
  · rcases List.mem_append.1 ht with ht | ht
    · exact h.de t ht hb
    · rw [List.mem_singleton.1 ht] at hb; cases hb
  · rcases List.mem_append.1 ht with ht | ht
    · exact h.kp t ht
    · rw [List.mem_singleton.1 ht]; exact hk
theorem TInv.perm (h : TInv T L D) (hp : L.Perm L') : TInv T L' D := ⟨h.al.trans ((hp.flatMap_right _).map _), h.de, h.kp⟩
theorem TInv.live (h : TInv T L D) (ht : t ∈ T) (hb : t.b = true) : ∃ hh ∈ L, ∃ r ∈ hh.I, r.ref = t.p ∧ r.key = t.t := by
  have h1 : (t.p, t.t) ∈ (itemsL L).map fun r => (r.ref, r.key) := h.al.mem_iff.1 (List.mem_map.2 ⟨t, List.mem_filter.2 ⟨ht, hb⟩, rfl⟩)
  obtain ⟨r, hr, e⟩ := List.mem_map.1 h1
  simp only [Prod.mk.injEq] at e
  obtain ⟨hh, hm, hr⟩ := List.mem_flatMap.1 hr
  exact ⟨hh, hm, r, hr, e.1, e.2⟩
theorem filter_set : ∀ {T : List HT} {n : Nat} {t : HT}, T[n]? = some t → t.b = true → (T.filter HT.b).Perm (t :: (T.set n ⟨t.p, false, t.t⟩).filter HT.b)
  | [], n, t, h, _ => by simp at h
  | x :: T, 0, t, h, hb => by
    simp at h
    subst h
    simp [hb]
  | x :: T, n + 1, t, h, hb => by
    have ih := filter_set (T := T) (n := n) (t := t) (by simpa using h) hb
    rw [List.set_cons_succ, List.filter_cons, List.filter_cons]
    cases hx : x.b
    · simp only [Bool.false_eq_true, if_false]; exact ih
    · simp only [if_true]; exact (List.Perm.cons x ih).trans (List.Perm.swap _ _ _)
theorem TInv.del (h : TInv T L D) {n : Nat} (ht : T[n]? = some t) (hb : t.b = true) (hr : (itemsL L).Perm (r :: itemsL L')) (h1 : r.ref = t.p) (h2 : r.key = t.t) : TInv (T.set n ⟨t.p, false, t.t⟩) L' (t.p :: D) := by
  have hT := List.mem_of_getElem? ht
  refine ⟨?_, fun u hu hub => ?_, fun u hu => ?_⟩
  · have a := ((filter_set ht hb).map fun t => (t.p, t.t)).symm.trans (h.al.trans (hr.map _))
    simp only [List.map_cons, h1, h2] at a
    exact a.cons_inv
  · rcases List.mem_or_eq_of_mem_set hu with hu | hu
    · exact List.mem_cons_of_mem _ (h.de u hu hub)
    · rw [hu]; exact List.mem_cons_self
  · rcases List.mem_or_eq_of_mem_set hu with hu | hu
    · exact h.kp u hu
    · rw [hu]; exact h.kp t hT
theorem TInv.none (L : List HR) (h : itemsL L = []) : TInv [] L [] := ⟨by rw [h]; simp, by simp, by simp⟩
theorem hB_set (T : List HT) (n : Nat) (t : HT) : hB (T.set n t) = (hB T).set n (.bool t.b) := by simp [hB, List.map_set]
theorem hP_set {T : List HT} {n : Nat} {t : HT} (h : T[n]? = some t) : hP (T.set n ⟨t.p, false, t.t⟩) = hP T := by
  unfold hP
  rw [List.map_set]
  exact setGet_self (by rw [List.getElem?_map, h]; rfl)
theorem hK_set {T : List HT} {n : Nat} {t : HT} (h : T[n]? = some t) : hK (T.set n ⟨t.p, false, t.t⟩) = hK T := by
  unfold hK
  rw [List.map_set]
  exact setGet_self (by rw [List.getElem?_map, h]; rfl)
theorem set_same {T : List HT} {n : Nat} {t : HT} (h : T[n]? = some t) (hb : t.b = false) : T.set n ⟨t.p, false, t.t⟩ = T := setGet_self (by rw [h]; cases t; simp only at hb; rw [hb])
theorem hP_len (T : List HT) : (hP T).length = T.length := by simp [hP]
theorem hB_len (T : List HT) : (hB T).length = T.length := by simp [hB]
theorem hK_len (T : List HT) : (hK T).length = T.length := by simp [hK]
structure TRef (T : List HT) (L : List HR) (D : List (Int × Int)) : Prop where
  al : ((T.filter HT.b).map HT.p).Perm ((itemsL L).map IR.ref)
  de : ∀ t ∈ T, t.b = false → t.p ∈ D
  kp : ∀ r ∈ itemsL L, -1 ≤ r.key
theorem TInv.ref (h : TInv T L D) : TRef T L D := by
  refine ⟨?_, h.de, fun r hr => ?_⟩
  · have := h.al.map Prod.fst
    rw [List.map_map, List.map_map] at this
    exact this
  · have h1 := h.al.mem_iff.2 (List.mem_map.2 ⟨r, hr, rfl⟩)
    obtain ⟨t, ht, e⟩ := List.mem_map.1 h1
    simp only [Prod.mk.injEq] at e
    have := h.kp t (List.mem_filter.1 ht).1
    omega
theorem TRef.live (h : TRef T L D) (ht : t ∈ T) (hb : t.b = true) : ∃ hh ∈ L, ∃ r ∈ hh.I, r.ref = t.p := by
  have h1 : t.p ∈ (itemsL L).map IR.ref := h.al.mem_iff.1 (List.mem_map.2 ⟨t, List.mem_filter.2 ⟨ht, hb⟩, rfl⟩)
  obtain ⟨r, hr, e⟩ := List.mem_map.1 h1
  obtain ⟨hh, hm, hr⟩ := List.mem_flatMap.1 hr
  exact ⟨hh, hm, r, hr, e⟩
theorem TRef.low (h : TRef T L D) {r' : IR} {I : List IR} (h1 : (itemsL L).Perm (r :: I)) (h2 : (itemsL L').Perm (r' :: I)) (he : r'.ref = r.ref) (hk : -1 ≤ r'.key) : TRef T L' D := by
  refine ⟨h.al.trans ?_, h.de, fun u hu => ?_⟩
  · refine (h1.map _).trans (List.Perm.trans ?_ (h2.map _).symm)
    rw [List.map_cons, List.map_cons, he]
  · rcases List.mem_cons.1 (h2.mem_iff.1 hu) with e | e
    · rw [e]; exact hk
    · exact h.kp u (h1.mem_iff.2 (by simp [e]))
def cntB (T : List HT) (j : Nat) : Nat := ((T.take j).filter HT.b).length
theorem cntB_succ {T : List HT} {j : Nat} (h : T[j]? = some t) : cntB T (j + 1) = cntB T j + if t.b = true then 1 else 0 := by
  unfold cntB
  rw [List.take_add_one, h, List.filter_append, List.length_append]
  cases hb : t.b <;> simp [hb]
theorem cntB_le (T : List HT) (j : Nat) : cntB T j ≤ j := by
  unfold cntB
  have := List.length_filter_le HT.b (T.take j)
  rw [List.length_take] at this
  omega
theorem TRef.all (h : TRef T L D) : cntB T T.length = (itemsL L).length := by
  have := h.al.length_eq
  rw [List.length_map, List.length_map] at this
  unfold cntB
  rw [List.take_of_length_le (Nat.le_refl _), this]
end
end Go.Proofs.YtognmhgdegpdiaaGreat
