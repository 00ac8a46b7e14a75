import Derived.Test.YtognmhgdegpdiaaGreatTopAI
import Derived.Test.YtognmhgdegpdiaaGreatTopLP
import Derived.Test.YtognmhgdegpdiaaGreatTopRW
section
/- Heaps as plain data: an order of items; forests of nodes, told flat: the roots, the nodes, each one's children. -/
namespace Go.Proofs.YtognmhgdegpdiaaGreat
set_option linter.unusedVariables false
set_option linter.unusedSimpArgs false
abbrev V3i := Int × Int × Int
def lt3 (a b : V3i) : Prop := a.1 < b.1 ∨ (a.1 = b.1 ∧ (a.2.1 < b.2.1 ∨ (a.2.1 = b.2.1 ∧ a.2.2 < b.2.2)))
theorem lt3_irrefl (a : V3i) : ¬ lt3 a a := by unfold lt3; omega
theorem lt3_trans {a b c : V3i} (h : lt3 a b) (k : lt3 b c) : lt3 a c := by unfold lt3 at *; omega
theorem lt3_total (a b : V3i) : lt3 a b ∨ a = b ∨ lt3 b a := by
  obtain ⟨a1, a2, a3⟩ := a
  obtain ⟨b1, b2, b3⟩ := b
  simp only [lt3, Prod.mk.injEq]
  omega
theorem lt3_asymm {a b : V3i} (h : lt3 a b) : ¬ lt3 b a := fun k => lt3_irrefl _ (lt3_trans h k)
theorem nodup_le : ∀ (m : Nat) (l : List Int), l.Nodup → (∀ x ∈ l, 0 ≤ x ∧ x < m) → l.length ≤ m
  | 0, [], _, _ => Nat.le_refl _
  | 0, x :: l, _, h => by have := h x (by simp); omega
  | m + 1, l, hn, h => by
    by_cases hm : (m : Int) ∈ l
    · have h1 := nodup_le m (l.erase m) (hn.erase _) fun x hx => by
        have h2 := h x (List.mem_of_mem_erase hx)
        have h3 := (hn.mem_erase_iff.1 hx).1
        omega
      rw [List.length_erase_of_mem hm] at h1
      omega
    · have h1 := nodup_le m l hn fun x hx => by
        have h2 := h x hx
        have h3 : x ≠ m := fun e => hm (e ▸ hx)
        omega
      omega
theorem nodup_sub : ∀ (l N : List Int), l.Nodup → (∀ x ∈ l, x ∈ N) → l.length ≤ N.length
  | [], _, _, _ => Nat.zero_le _
  | x :: l, N, hd, h => by
    rw [List.nodup_cons] at hd
    have hx := h x (by simp)
    have h1 := nodup_sub l (N.erase x) hd.2 fun y hy => (List.mem_erase_of_ne (fun e : y = x => hd.1 (e ▸ hy))).2 (h y (by simp [hy]))
    rw [List.length_erase_of_mem hx] at h1
    have := List.length_pos_of_mem hx
    simp only [List.length_cons]
    omega
theorem flat_congr {k k' : Int → List Int} : ∀ {N : List Int}, (∀ n ∈ N, k' n = k n) → N.flatMap k' = N.flatMap k
  | [], _ => rfl
  | x :: N, h => by rw [List.flatMap_cons, List.flatMap_cons, h x (by simp), flat_congr fun n hn => h n (by simp [hn])]
theorem flat_out {k : Int → List Int} {n : Int} {l N : List Int} (h : n ∉ N) : N.flatMap (updI k n l) = N.flatMap k :=
  flat_congr fun m hm => updI_ne _ _ fun e => h (e ▸ hm)
theorem flat_upd {k : Int → List Int} {n : Int} {l : List Int} : ∀ {N : List Int}, N.Nodup → n ∈ N → ∀ a, (N.flatMap (updI k n l)).count a + (k n).count a = (N.flatMap k).count a + l.count a
  | [], _, h, _ => by cases h
  | x :: N, hd, h, a => by
    rw [List.nodup_cons] at hd
    rw [List.flatMap_cons, List.flatMap_cons, List.count_append, List.count_append]
    by_cases hx : x = n
    · subst hx
      rw [updI_same, flat_out hd.1]
      omega
    · rw [updI_ne _ _ hx]
      have := flat_upd (k := k) (n := n) (l := l) hd.2 (by simpa [Ne.symm hx] using h) a
      omega
theorem nodup_flat {k : Int → List Int} : ∀ {N : List Int}, (N.flatMap k).Nodup → (∀ n ∈ N, (k n).Nodup) ∧ (N.Nodup → ∀ n ∈ N, ∀ m ∈ N, ∀ x, x ∈ k n → x ∈ k m → n = m)
  | [], _ => ⟨by simp, by simp⟩
  | y :: N, h => by
    rw [List.flatMap_cons, List.nodup_append] at h
    obtain ⟨h1, h2⟩ := nodup_flat h.2.1
    refine ⟨fun n hn => ?_, fun hd n hn m hm x hx hy => ?_⟩
    · rcases List.mem_cons.1 hn with rfl | hn
      · exact h.1
      · exact h1 n hn
    · rw [List.nodup_cons] at hd
      rcases List.mem_cons.1 hn with e1 | hn' <;> rcases List.mem_cons.1 hm with e2 | hm'
      · rw [e1, e2]
      · exact absurd rfl (h.2.2 x (e1 ▸ hx) x (List.mem_flatMap.2 ⟨m, hm', hy⟩))
      · exact absurd rfl (h.2.2 x (e2 ▸ hy) x (List.mem_flatMap.2 ⟨n, hn', hx⟩))
      · exact h2 hd.2 n hn' m hm' x hx hy
theorem list_least (v : Int → V3i) : ∀ (N : List Int), N ≠ [] → ∃ x ∈ N, ∀ m ∈ N, v m = v x ∨ lt3 (v x) (v m)
  | [], h => absurd rfl h
  | [y], _ => ⟨y, by simp, by simp⟩
  | y :: z :: N, _ => by
    obtain ⟨x, hx, h⟩ := list_least v (z :: N) (by simp)
    rcases lt3_total (v x) (v y) with h1 | h1 | h1
    · refine ⟨x, by simp [hx], fun m hm => ?_⟩
      rcases List.mem_cons.1 hm with rfl | hm
      · exact .inr h1
      · exact h m hm
    · refine ⟨x, by simp [hx], fun m hm => ?_⟩
      rcases List.mem_cons.1 hm with rfl | hm
      · exact .inl h1.symm
      · exact h m hm
    · refine ⟨y, by simp, fun m hm => ?_⟩
      rcases List.mem_cons.1 hm with rfl | hm
      · exact .inl rfl
      · rcases h m hm with h2 | h2
        · exact .inr (h2 ▸ h1)
        · exact .inr (lt3_trans h1 h2)
structure Forest (v : Int → V3i) (R N : List Int) (k : Int → List Int) : Prop where
  perm : (R ++ N.flatMap k).Perm N
  nd : N.Nodup
  inj : ∀ n ∈ N, ∀ m ∈ N, v n = v m → n = m
  ord : ∀ n ∈ N, ∀ m ∈ k n, lt3 (v n) (v m)
namespace Forest
variable {v : Int → V3i} {R Q N : List Int} {k : Int → List Int} {n m : Int}
theorem cnt (h : Forest v R N k) (a : Int) : R.count a + (N.flatMap k).count a = N.count a := by
  have := List.perm_iff_count.1 h.perm a
  rwa [List.count_append] at this
theorem nil (v : Int → V3i) (k : Int → List Int) : Forest v [] [] k := ⟨by simp, by simp, by simp, by simp⟩
theorem root (h : Forest v R N k) (hn : n ∈ R) : n ∈ N := h.perm.mem_iff.1 (by simp [hn])
theorem kid (h : Forest v R N k) (hn : n ∈ N) (hm : m ∈ k n) : m ∈ N := h.perm.mem_iff.1 (List.mem_append.2 (.inr (List.mem_flatMap.2 ⟨n, hn, hm⟩)))
theorem ndp (h : Forest v R N k) : (R ++ N.flatMap k).Nodup := h.perm.nodup_iff.2 h.nd
theorem ndR (h : Forest v R N k) : R.Nodup := (List.nodup_append.1 h.ndp).1
theorem ndF (h : Forest v R N k) : (N.flatMap k).Nodup := (List.nodup_append.1 h.ndp).2.1
theorem notkid (h : Forest v R N k) (hn : n ∈ R) (hm : m ∈ N) : n ∉ k m := fun hk => (List.nodup_append.1 h.ndp).2.2 n hn n (List.mem_flatMap.2 ⟨m, hm, hk⟩) rfl
theorem ndK (h : Forest v R N k) (hn : n ∈ N) : (k n).Nodup := (nodup_flat h.ndF).1 n hn
theorem once (h : Forest v R N k) (hn : n ∈ N) (hm : m ∈ N) {x : Int} (hx : x ∈ k n) (hy : x ∈ k m) : n = m := (nodup_flat h.ndF).2 h.nd n hn m hm x hx hy
theorem self (h : Forest v R N k) (hn : n ∈ N) : n ∉ k n := fun hk => lt3_irrefl _ (h.ord n hn n hk)
theorem permR (h : Forest v R N k) (hR : R.Perm Q) : Forest v Q N k := ⟨(hR.symm.append_right _).trans h.perm, h.nd, h.inj, h.ord⟩
theorem congr {v' : Int → V3i} {k' : Int → List Int} (h : Forest v R N k) (hv : ∀ n ∈ N, v' n = v n) (hk : ∀ n ∈ N, k' n = k n) : Forest v' R N k' :=
  ⟨by rw [flat_congr hk]; exact h.perm, h.nd, fun n hn m hm e => h.inj n hn m hm (by rw [← hv n hn, ← hv m hm]; exact e), fun n hn m hm => by
    rw [hk n hn] at hm
    rw [hv n hn, hv m (h.kid hn hm)]
    exact h.ord n hn m hm⟩
theorem link (h : Forest v R N k) (hR : R.Perm (n :: m :: Q)) {l : List Int} (hl : l.Perm (m :: k n)) (hlt : lt3 (v n) (v m)) : Forest v (n :: Q) N (updI k n l) := by
  have hn : n ∈ N := h.root (hR.mem_iff.2 (by simp))
  refine ⟨List.perm_iff_count.2 fun a => ?_, h.nd, h.inj, fun x hx y hy => ?_⟩
  · have h1 := h.cnt a
    have h2 := flat_upd (k := k) (l := l) h.nd hn a
    have h3 := List.perm_iff_count.1 hR a
    have h4 := List.perm_iff_count.1 hl a
    simp only [List.count_append, List.count_cons] at *
    omega
  · by_cases hxn : x = n
    · subst hxn
      rw [updI_same] at hy
      rcases List.mem_cons.1 (hl.mem_iff.1 hy) with rfl | hy
      · exact hlt
      · exact h.ord _ hx _ hy
    · rw [updI_ne _ _ hxn] at hy
      exact h.ord _ hx _ hy
theorem drop (h : Forest v R N k) (hR : R.Perm (n :: Q)) {M : List Int} (hN : N.Perm (n :: M)) : Forest v (k n ++ Q) M k := by
  have hd := hN.nodup_iff.1 h.nd
  rw [List.nodup_cons] at hd
  have hs : ∀ x, x ∈ M → x ∈ N := fun x hx => hN.mem_iff.2 (by simp [hx])
  refine ⟨List.perm_iff_count.2 fun a => ?_, hd.2, fun x hx y hy => h.inj x (hs x hx) y (hs y hy), fun x hx => h.ord x (hs x hx)⟩
  have h1 := h.cnt a
  have h2 := List.perm_iff_count.1 (hN.flatMap_right k) a
  have h3 := List.perm_iff_count.1 hR a
  have h4 := List.perm_iff_count.1 hN a
  simp only [List.count_append, List.count_cons, List.flatMap_cons] at *
  omega
theorem add (h : Forest v R N k) (hn : n ∉ N) (hv : ∀ m ∈ N, v m ≠ v n) : Forest v (n :: R) (n :: N) (updI k n []) := by
  refine ⟨List.perm_iff_count.2 fun a => ?_, List.nodup_cons.2 ⟨hn, h.nd⟩, fun x hx y hy e => ?_, fun x hx y hy => ?_⟩
  · have h1 := h.cnt a
    simp only [List.flatMap_cons, updI_same, flat_out hn, List.count_append, List.count_cons, List.count_nil]
    omega
  · rcases List.mem_cons.1 hx with e1 | hx' <;> rcases List.mem_cons.1 hy with e2 | hy'
    · rw [e1, e2]
    · exact absurd (e1 ▸ e.symm) (hv y hy')
    · exact absurd (e2 ▸ e) (hv x hx')
    · exact h.inj x hx' y hy' e
  · rcases List.mem_cons.1 hx with e1 | hx'
    · rw [e1, updI_same] at hy; cases hy
    · rw [updI_ne _ _ (fun e : x = n => hn (e ▸ hx'))] at hy
      exact h.ord x hx' y hy
theorem both {R' N' : List Int} {k' : Int → List Int} (h : Forest v R N k) (h' : Forest v R' N' k') (hd : ∀ x ∈ N, x ∉ N') (hv : ∀ x ∈ N, ∀ y ∈ N', v x ≠ v y) : Forest v (R ++ R') (N ++ N') (fun x => if x ∈ N then k x else k' x) := by
  have e1 : N.flatMap (fun x => if x ∈ N then k x else k' x) = N.flatMap k := flat_congr fun x hx => by simp [hx]
  have e2 : N'.flatMap (fun x => if x ∈ N then k x else k' x) = N'.flatMap k' := flat_congr fun x hx => by simp [show x ∉ N from fun e => hd x e hx]
  refine ⟨List.perm_iff_count.2 fun a => ?_, List.nodup_append.2 ⟨h.nd, h'.nd, fun a ha b hb e => hd a ha (e ▸ hb)⟩, fun x hx y hy e => ?_, fun x hx y hy => ?_⟩
  · rw [List.flatMap_append, e1, e2]
    have h1 := h.cnt a
    have h2 := h'.cnt a
    simp only [List.count_append] at *
    omega
  · rcases List.mem_append.1 hx with hx | hx <;> rcases List.mem_append.1 hy with hy | hy
    · exact h.inj x hx y hy e
    · exact absurd e (hv x hx y hy)
    · exact absurd e.symm (hv y hy x hx)
    · exact h'.inj x hx y hy e
  · rcases List.mem_append.1 hx with hx | hx
    · simp only [hx, if_true] at hy
      exact h.ord x hx y hy
    · simp only [show x ∉ N from fun e => hd x e hx, if_false] at hy
      exact h'.ord x hx y hy
theorem cut (h : Forest v R N k) (hn : n ∈ N) {l : List Int} (hl : (k n).Perm (m :: l)) : Forest v (m :: R) N (updI k n l) := by
  refine ⟨List.perm_iff_count.2 fun a => ?_, h.nd, h.inj, fun x hx y hy => ?_⟩
  · have h1 := h.cnt a
    have h2 := flat_upd (k := k) (l := l) h.nd hn a
    have h4 := List.perm_iff_count.1 hl a
    simp only [List.count_append, List.count_cons] at *
    omega
  · by_cases hxn : x = n
    · subst hxn
      rw [updI_same] at hy
      exact h.ord _ hx _ (hl.mem_iff.2 (by simp [hy]))
    · rw [updI_ne _ _ hxn] at hy
      exact h.ord _ hx _ hy
theorem least (h : Forest v R N k) (hn : n ∈ R) (hm : ∀ m ∈ R, m ≠ n → lt3 (v n) (v m)) : ∀ m ∈ N, m ≠ n → lt3 (v n) (v m) := by
  obtain ⟨x, hx, hl⟩ := list_least v N (fun e => by have := h.root hn; rw [e] at this; cases this)
  have hxr : x ∈ R := by
    rcases List.mem_append.1 (h.perm.mem_iff.2 hx) with h1 | h1
    · exact h1
    · obtain ⟨p, hp, hk⟩ := List.mem_flatMap.1 h1
      have h2 := h.ord p hp x hk
      rcases hl p hp with h3 | h3
      · rw [h3] at h2; exact absurd h2 (lt3_irrefl _)
      · exact absurd h2 (lt3_asymm h3)
  have hxn : x = n := by
    by_cases e : x = n
    · exact e
    · have h1 := hm x hxr e
      rcases hl n (h.root hn) with h3 | h3
      · exact (h.inj _ hx _ (h.root hn) h3.symm)
      · exact absurd h1 (lt3_asymm h3)
  subst hxn
  intro m hm' hne
  rcases hl m hm' with h3 | h3
  · exact absurd (h.inj _ hm' _ hx h3) hne
  · exact h3
theorem weight (h : Forest v R N k) (wt : Int → Nat) (hw : ∀ n ∈ N, wt n ≤ 1 + ((k n).map wt).sum) : (R.map wt).sum ≤ N.length := by
  have h1 : ∀ M : List Int, (∀ n ∈ M, wt n ≤ 1 + ((k n).map wt).sum) → (M.map wt).sum ≤ M.length + ((M.flatMap k).map wt).sum := by
    intro M
    induction M with
    | nil => intro _; simp
    | cons x M ih =>
      intro hM
      have h2 := ih fun n hn => hM n (by simp [hn])
      have h3 := hM x (by simp)
      simp only [List.map_cons, List.sum_cons, List.length_cons, List.flatMap_cons, List.map_append, List.sum_append]
      omega
  have h2 := h1 N hw
  have h3 : ((R ++ N.flatMap k).map wt).sum = (N.map wt).sum := (h.perm.map wt).sum_nat
  rw [List.map_append, List.sum_append] at h3
  omega
end Forest
end Go.Proofs.YtognmhgdegpdiaaGreat
end
section
/- What a write does to the arena; what heaps' calls leave as it was; nodes and their items. -/
namespace Go.Proofs.YtognmhgdegpdiaaGreat
set_option linter.unusedVariables false
set_option linter.unusedSimpArgs false
namespace Ar
theorem put_f (s : Ar) (c k v d j : Int) : (s.put c k v).f d j = if s.has c = true ∧ d = c ∧ j = k then v else s.f d j := by
  unfold Ar.put
  by_cases h : s.has c = true
  · rw [if_pos h]
    by_cases hd : d = c
    · subst hd
      by_cases hj : j = k
      · subst hj
        rw [if_pos ⟨h, rfl, rfl⟩]
        simp [updI]
      · rw [if_neg (fun e => by exact hj e.2.2)]
        simp [updI, hj]
    · rw [if_neg (fun e => by exact hd e.2.1)]
      simp [updI, hd]
  · rw [if_neg h, if_neg (fun e => by exact h e.1)]
theorem put_eq (s : Ar) (c k v : Int) : s.put c k v = { s with f := (s.put c k v).f } := by unfold Ar.put; split <;> rfl
theorem put_tk (s : Ar) (c k v : Int) : (s.put c k v).tk = s.tk := by unfold Ar.put; split <;> rfl
theorem put_has (s : Ar) (c k v d : Int) : (s.put c k v).has d = s.has d := by unfold Ar.has; rw [put_n, put_tk]
theorem has_ne {s : Ar} {c : Int} (h : s.has c = true) : c ≠ -1 := by have := (has_iff.1 h).1; omega
theorem has_m1 (s : Ar) : s.has (-1) = false := by simp [Ar.has]
theorem get_f {s : Ar} {c : Int} (h : s.has c = true) (k : Int) : s.get c k = s.f c k := by rw [Ar.get, if_pos h]
theorem cell_f {s : Ar} {c k : Int} (h : s.has c = true) (hk : s.f c k = -1 ∨ s.has (s.f c k) = true) : s.cell c k = s.f c k := by
  unfold Ar.cell
  rw [get_f h]
  rcases hk with h1 | h1
  · rw [if_pos (.inl (by omega)), h1]
  · have := has_iff.1 h1
    rw [if_neg (by omega)]
def iv (s : Ar) (n : Int) : V3i := (s.f (s.f n 6) 7, s.f (s.f n 6) 8, s.f n 6)
theorem cmpI_lt (a b : Int) : (cmpI a b < 0 ↔ a < b) ∧ (cmpI a b = 0 ↔ a = b) := by unfold cmpI; split <;> (try split) <;> omega
theorem ibefore_iff {s : Ar} {i j : Int} (hi : s.has i = true) (hj : s.has j = true) : s.ibefore i j = true ↔ lt3 (s.f i 7, s.f i 8, i) (s.f j 7, s.f j 8, j) := by
  unfold Ar.ibefore Ar.icmp cmpE orI lt3
  rw [get_f hi, get_f hi, get_f hj, get_f hj]
  have h1 := cmpI_lt (s.f i 7) (s.f j 7)
  have h2 := cmpI_lt (s.f i 8) (s.f j 8)
  simp only [Bool.or_eq_true, Bool.and_eq_true, decide_eq_true_eq]
  split <;> omega
end Ar
structure Base (s : Ar) (N : List Int) : Prop where
  has : ∀ n ∈ N, s.has n = true
  it : ∀ n ∈ N, s.has (s.f n 6) = true
  bk : ∀ n ∈ N, s.f (s.f n 6) 9 = n
  di : ∀ n ∈ N, ∀ m ∈ N, s.f m 6 ≠ n
namespace Base
variable {s s' : Ar} {N M : List Int} {n m : Int}
theorem inj6 (h : Base s N) (hn : n ∈ N) (hm : m ∈ N) (e : s.f n 6 = s.f m 6) : n = m := by rw [← h.bk n hn, ← h.bk m hm, e]
theorem inj (h : Base s N) : ∀ n ∈ N, ∀ m ∈ N, s.iv n = s.iv m → n = m := fun n hn m hm e => h.inj6 hn hm (by simp only [Ar.iv, Prod.mk.injEq] at e; exact e.2.2)
theorem sub (h : Base s N) (hM : ∀ x ∈ M, x ∈ N) : Base s M := ⟨fun n hn => h.has n (hM n hn), fun n hn => h.it n (hM n hn), fun n hn => h.bk n (hM n hn), fun n hn m hm => h.di n (hM n hn) m (hM m hm)⟩
theorem cell6 (h : Base s N) (hn : n ∈ N) : s.cell n 6 = s.f n 6 := Ar.cell_f (h.has n hn) (.inr (h.it n hn))
theorem before (h : Base s N) (hn : n ∈ N) (hm : m ∈ N) : s.nbefore n m = true ↔ lt3 (s.iv n) (s.iv m) := by
  unfold Ar.nbefore
  rw [h.cell6 hn, h.cell6 hm]
  exact Ar.ibefore_iff (h.it n hn) (h.it m hm)
theorem nbefore (h : Base s N) (hn : n ∈ N) (hm : m ∈ N) (hne : n ≠ m) : s.nbefore n m = false ↔ lt3 (s.iv m) (s.iv n) := by
  have h1 := h.before hn hm
  constructor
  · intro e
    rcases lt3_total (s.iv n) (s.iv m) with h2 | h2 | h2
    · rw [h1.2 h2] at e; cases e
    · exact absurd (h.inj n hn m hm h2) hne
    · exact h2
  · intro e
    cases hb : s.nbefore n m with
    | false => rfl
    | true => exact absurd (h1.1 hb) (lt3_asymm e)
theorem cell (h : Base s N) (hn : n ∈ N) {k : Int} (hk : s.f n k = -1 ∨ s.f n k ∈ N) : s.cell n k = s.f n k := Ar.cell_f (h.has n hn) (hk.imp id (h.has _))
theorem ne (h : Base s N) (hn : n ∈ N) : n ≠ -1 := Ar.has_ne (h.has n hn)
theorem le (h : Base s N) (hd : M.Nodup) (hM : ∀ x ∈ M, x ∈ N) : M.length ≤ s.n := nodup_le s.n M hd fun x hx => by have := Ar.has_iff.1 (h.has x (hM x hx)); omega
end Base
structure Str (s s' : Ar) (N : List Int) : Prop where
  eq : s' = { s with f := s'.f }
  out : ∀ c, c ∉ N → ∀ j, s'.f c j = s.f c j
  hi : ∀ c j, 5 < j → s'.f c j = s.f c j
namespace Str
variable {s s' s'' : Ar} {N M : List Int} {n m : Int}
theorem refl (s : Ar) (N : List Int) : Str s s N := ⟨rfl, fun _ _ _ => rfl, fun _ _ _ => rfl⟩
theorem trans (h : Str s s' N) (k : Str s' s'' N) : Str s s'' N := ⟨by rw [k.eq, h.eq], fun c hc j => (k.out c hc j).trans (h.out c hc j), fun c j hj => (k.hi c j hj).trans (h.hi c j hj)⟩
theorem mono (h : Str s s' N) (hM : ∀ x ∈ N, x ∈ M) : Str s s' M := ⟨h.eq, fun c hc => h.out c fun e => hc (hM c e), h.hi⟩
theorem put (s : Ar) {c k : Int} (v : Int) (hc : c ∈ N) (hk : k ≤ 5) : Str s (s.put c k v) N :=
  ⟨s.put_eq c k v, fun d hd j => by rw [Ar.put_f, if_neg (fun e => by exact hd (e.2.1 ▸ hc))], fun d j hj => by rw [Ar.put_f, if_neg (fun e => by omega)]⟩
theorem tk (h : Str s s' N) : s'.tk = s.tk := by rw [h.eq]
theorem n_ (h : Str s s' N) : s'.n = s.n := by rw [h.eq]
theorem has (h : Str s s' N) (c : Int) : s'.has c = s.has c := by unfold Ar.has; rw [h.tk, h.n_]
theorem ok (h : Str s s' N) (k : s.Ok) : s'.Ok := by
  rw [h.eq]
  exact ⟨k.nv, k.cnt, k.fr, k.nd, k.out, k.n1, k.nm, k.bg, k.mo⟩
theorem iv (h : Str s s' N) (c : Int) : s'.iv c = s.iv c := by unfold Ar.iv; rw [h.hi c 6 (by decide), h.hi _ 7 (by decide), h.hi _ 8 (by decide)]
theorem base (h : Str s s' N) (k : Base s M) : Base s' M :=
  ⟨fun n hn => by rw [h.has]; exact k.has n hn, fun n hn => by rw [h.has, h.hi n 6 (by decide)]; exact k.it n hn, fun n hn => by rw [h.hi n 6 (by decide), h.hi _ 9 (by decide)]; exact k.bk n hn, fun n hn m hm => by rw [h.hi m 6 (by decide)]; exact k.di n hn m hm⟩
theorem rb (h : Str s s' N) {K : Int} (k : s.RB K) (hN : ∀ n ∈ N, -1 ≤ s'.f n 4 ∧ s'.f n 4 ≤ K) : s'.RB K := fun c => by
  by_cases hc : c ∈ N
  · exact hN c hc
  · rw [h.out c hc]; exact k c
end Str
theorem Ar.endNode_f {s : Ar} {n : Int} {N : List Int} (h : Base s N) (hn : n ∈ N) (c j : Int) : (s.endNode n).f c j = if c = s.f n 6 ∧ j = 9 then -1 else s.f c j := by
  unfold Ar.endNode Ar.give
  rw [h.cell6 hn]
  have h2 : ∀ b : Bool × Ar, (if (s.put (s.f n 6) 9 (-1)).has n = true then (true, { s.put (s.f n 6) 9 (-1) with tk := updI (s.put (s.f n 6) 9 (-1)).tk n false, free := (s.put (s.f n 6) 9 (-1)).free ++ [n] }) else (false, s.put (s.f n 6) 9 (-1))) = b → b.2.f c j = if c = s.f n 6 ∧ j = 9 then -1 else s.f c j := by
    rintro b rfl
    split
    · show (s.put (s.f n 6) 9 (-1)).f c j = _
      rw [Ar.put_f]
      simp [h.it n hn]
    · rw [Ar.put_f]
      simp [h.it n hn]
  exact h2 _ rfl
theorem Ar.endNode_tk {s : Ar} {n : Int} {N : List Int} (h : Base s N) (hn : n ∈ N) : (s.endNode n).tk = updI s.tk n false := by
  unfold Ar.endNode Ar.give
  rw [if_pos (by rw [Ar.put_has]; exact h.has n hn)]
  show updI (s.put _ _ _).tk n false = _
  rw [Ar.put_tk]
theorem Ar.endNode_n (s : Ar) (n : Int) : (s.endNode n).n = s.n := by
  unfold Ar.endNode Ar.give
  split
  · show (s.put _ _ _).n = _
    rw [Ar.put_n]
  · exact Ar.put_n _ _ _ _
theorem Ar.endNode_has {s : Ar} {n : Int} {N : List Int} (h : Base s N) (hn : n ∈ N) (c : Int) (hc : c ≠ n) : (s.endNode n).has c = s.has c := by
  unfold Ar.has
  rw [Ar.endNode_tk h hn, Ar.endNode_n, updI_ne _ _ hc]
theorem Ar.endNode_eq {s : Ar} {n : Int} {N : List Int} (h : Base s N) (hn : n ∈ N) : s.endNode n = { s with f := (s.endNode n).f, tk := updI s.tk n false, free := s.free ++ [n] } := by
  unfold Ar.endNode Ar.give
  rw [if_pos (by rw [Ar.put_has]; exact h.has n hn)]
  simp only
  generalize s.cell n 6 = z
  unfold Ar.put
  split <;> rfl
theorem Str.endNode {s s' : Ar} {n : Int} {N : List Int} (hs : Str s s' N) (h : Base s N) (hn : n ∈ N) : Str (s.endNode n) (s'.endNode n) N := by
  have h' := hs.base h
  have e6 : s'.f n 6 = s.f n 6 := hs.hi n 6 (by decide)
  refine ⟨?_, fun c hc j => ?_, fun c j hj => ?_⟩
  · rw [Ar.endNode_eq h hn, Ar.endNode_eq h' hn, hs.eq]
  · rw [Ar.endNode_f h hn, Ar.endNode_f h' hn, e6, hs.out c hc]
  · rw [Ar.endNode_f h hn, Ar.endNode_f h' hn, e6, hs.hi c j hj]
theorem Base.endNode {s : Ar} {n : Int} {N M : List Int} (h : Base s N) (hd : N.Nodup) (hN : N.Perm (n :: M)) : Base (s.endNode n) M := by
  have hn : n ∈ N := hN.mem_iff.2 (by simp)
  have hs : ∀ x ∈ M, x ∈ N := fun x hx => hN.mem_iff.2 (by simp [hx])
  have hne : ∀ x ∈ M, x ≠ n := fun x hx e => by
    have := hN.nodup_iff.1 hd
    rw [List.nodup_cons] at this
    exact this.1 (e ▸ hx)
  have e6 : ∀ x, (s.endNode n).f x 6 = s.f x 6 := fun x => by rw [Ar.endNode_f h hn, if_neg (fun e => by omega)]
  refine ⟨fun x hx => ?_, fun x hx => ?_, fun x hx => ?_, fun x hx y hy => ?_⟩
  · rw [Ar.endNode_has h hn x (hne x hx)]; exact h.has x (hs x hx)
  · rw [e6, Ar.endNode_has h hn _ (h.di n hn x (hs x hx))]; exact h.it x (hs x hx)
  · rw [e6, Ar.endNode_f h hn, if_neg]
    · exact h.bk x (hs x hx)
    · intro e
      exact hne x hx (h.inj6 (hs x hx) hn e.1)
  · rw [e6]; exact h.di x (hs x hx) y (hs y hy)
theorem Ar.endNode_iv {s : Ar} {n : Int} {N : List Int} (h : Base s N) (hn : n ∈ N) (c : Int) : (s.endNode n).iv c = s.iv c := by
  unfold Ar.iv
  rw [Ar.endNode_f h hn, Ar.endNode_f h hn, Ar.endNode_f h hn, if_neg (fun e => by omega), if_neg (fun e => by omega), if_neg (fun e => by omega)]
structure Fresh1 (s : Ar) (n : Int) (s' : Ar) : Prop where
  tk0 : s.tk n = false
  n0 : 0 ≤ n ∧ n < s.n
  f : s'.f = updI s.f n freshF
  tk : s'.tk = updI s.tk n true
  n_ : s'.n = s.n
theorem Ar.take_law {s : Ar} (h : s.Ok) (ht : s.take.2.1 = true) : Fresh1 s s.take.1 s.take.2.2 := by
  rcases nil_or_snoc s.free with h0 | ⟨fs, c, hfc⟩
  · by_cases h2 : s.never < s.n
    · rw [Ar.take_new h0 h2]
      refine ⟨?_, ⟨by simp, by simp; omega⟩, rfl, rfl, rfl⟩
      cases hx : s.tk s.never with
      | false => rfl
      | true => have := h.out _ hx; omega
    · rw [Ar.take_none h0 (by omega)] at ht; cases ht
  · rw [Ar.take_free hfc]
    have hc := h.fr c (by rw [hfc]; simp)
    have := h.nv
    exact ⟨hc.2.2, ⟨hc.1, by simp; omega⟩, rfl, rfl, rfl⟩
theorem Ar.newNode_f {s : Ar} (h : s.Ok) (ht : s.take.2.1 = true) {i : Int} (hi : s.has i = true) (c j : Int) :
    (s.newNode i).f c j = if c = i ∧ j = 9 then s.take.1 else if c = s.take.1 ∧ j = 6 then i else if c = s.take.1 then freshF j else s.f c j := by
  have hl := Ar.take_law h ht
  have hn : s.take.2.2.has s.take.1 = true := Ar.has_iff.2 ⟨hl.n0.1, by rw [hl.n_]; exact hl.n0.2, by rw [hl.tk, updI_same]⟩
  have hne : i ≠ s.take.1 := fun e => by have := (Ar.has_iff.1 hi).2.2; rw [e, hl.tk0] at this; cases this
  have hi' : s.take.2.2.has i = true := by
    have := Ar.has_iff.1 hi
    exact Ar.has_iff.2 ⟨this.1, by rw [hl.n_]; exact this.2.1, by rw [hl.tk, updI_ne _ _ hne]; exact this.2.2⟩
  unfold Ar.newNode Ar.putItem
  rw [Ar.put_f, Ar.put_has, Ar.put_f, hn, hi', hl.f]
  by_cases h1 : c = i ∧ j = 9
  · rw [if_pos ⟨rfl, h1⟩, if_pos h1]
  · rw [if_neg (fun e => by exact h1 e.2), if_neg h1]
    by_cases h2 : c = s.take.1 ∧ j = 6
    · rw [if_pos ⟨rfl, h2⟩, if_pos h2]
    · rw [if_neg (fun e => by exact h2 e.2), if_neg h2]
      unfold updI
      split <;> rfl
theorem Ar.newNode_tk {s : Ar} (h : s.Ok) (ht : s.take.2.1 = true) (i : Int) : (s.newNode i).tk = updI s.tk s.take.1 true := by
  unfold Ar.newNode Ar.putItem
  rw [Ar.put_tk, Ar.put_tk, (Ar.take_law h ht).tk]
theorem Ar.newNode_has {s : Ar} (h : s.Ok) (ht : s.take.2.1 = true) (i c : Int) : (s.newNode i).has c = true ↔ c = s.take.1 ∨ s.has c = true := by
  have hl := Ar.take_law h ht
  rw [Ar.has_iff, Ar.has_iff, Ar.newNode_tk h ht, Ar.newNode_n]
  unfold updI
  split
  · rename_i e
    rw [e]
    simp [hl.n0.1, hl.n0.2]
  · rename_i e
    simp [e]
theorem Base.newNode {s : Ar} {N : List Int} (h : s.Ok) (ht : s.take.2.1 = true) {i : Int} (hi : s.has i = true) (hiN : i ∉ N) (hiI : ∀ m ∈ N, s.f m 6 ≠ i) (hb : Base s N) :
    Base (s.newNode i) (s.take.1 :: N) ∧ s.take.1 ∉ N ∧ (∀ m ∈ N, (s.newNode i).iv m = s.iv m) ∧ s.has s.take.1 = false ∧ s.take.1 ≠ i ∧ (s.newNode i).iv s.take.1 = (s.f i 7, s.f i 8, i) ∧ (s.newNode i).f s.take.1 6 = i ∧ (∀ m ∈ N, (s.newNode i).f m 6 = s.f m 6) := by
  have hl := Ar.take_law h ht
  have hx : s.has s.take.1 = false := by
    cases hh : s.has s.take.1 with
    | false => rfl
    | true => have := (Ar.has_iff.1 hh).2.2; rw [hl.tk0] at this; cases this
  have hne : s.take.1 ≠ i := fun e => by rw [e, hi] at hx; cases hx
  have hnN : s.take.1 ∉ N := fun e => by have := hb.has _ e; rw [hx] at this; cases this
  have hnI : ∀ m ∈ N, s.f m 6 ≠ s.take.1 := fun m hm e => by have := hb.it _ hm; rw [e, hx] at this; cases this
  have hmn : ∀ m ∈ N, m ≠ s.take.1 := fun m hm e => hnN (e ▸ hm)
  have e6n : (s.newNode i).f s.take.1 6 = i := by rw [Ar.newNode_f h ht hi, if_neg (fun e => by omega), if_pos ⟨rfl, rfl⟩]
  have e6 : ∀ m ∈ N, (s.newNode i).f m 6 = s.f m 6 := fun m hm => by rw [Ar.newNode_f h ht hi, if_neg (fun e => by omega), if_neg (fun e => by exact hmn m hm e.1), if_neg (hmn m hm)]
  have eo : ∀ c, c ≠ s.take.1 → ∀ j, j ≠ 9 → (s.newNode i).f c j = s.f c j := fun c hc j hj => by rw [Ar.newNode_f h ht hi, if_neg (fun e => by exact hj e.2), if_neg (fun e => by exact hc e.1), if_neg hc]
  refine ⟨⟨fun m hm => ?_, fun m hm => ?_, fun m hm => ?_, fun m hm q hq => ?_⟩, hnN, fun m hm => ?_, hx, hne, ?_, e6n, e6⟩
  · rw [Ar.newNode_has h ht]
    rcases List.mem_cons.1 hm with rfl | hm
    · exact .inl rfl
    · exact .inr (hb.has m hm)
  · rw [Ar.newNode_has h ht]
    rcases List.mem_cons.1 hm with rfl | hm
    · rw [e6n]; exact .inr hi
    · rw [e6 m hm]; exact .inr (hb.it m hm)
  · rcases List.mem_cons.1 hm with rfl | hm
    · rw [e6n, Ar.newNode_f h ht hi, if_pos ⟨rfl, rfl⟩]
    · rw [e6 m hm, Ar.newNode_f h ht hi, if_neg (fun e => by exact hiI m hm e.1), if_neg (fun e => by omega), if_neg (hnI m hm)]
      exact hb.bk m hm
  · rcases List.mem_cons.1 hq with rfl | hq <;> rcases List.mem_cons.1 hm with rfl | hm
    · rw [e6n]; exact fun e => hne e.symm
    · rw [e6n]; exact fun e => hiN (e ▸ hm)
    · rw [e6 q hq]; exact hnI q hq
    · rw [e6 q hq]; exact hb.di m hm q hq
  · unfold Ar.iv
    rw [e6 m hm, eo _ (hnI m hm) 7 (by decide), eo _ (hnI m hm) 8 (by decide)]
  · unfold Ar.iv
    rw [e6n, eo _ (Ne.symm hne) 7 (by decide), eo _ (Ne.symm hne) 8 (by decide)]
end Go.Proofs.YtognmhgdegpdiaaGreat
end
section
/- Pairing heaps are forests. -/
namespace Go.Proofs.YtognmhgdegpdiaaGreat
set_option linter.unusedVariables false
set_option linter.unusedSimpArgs false
def Lk (s : Ar) (k : Int) : Int → List Int → Prop
  | d, [] => d = -1
  | d, x :: l => d = x ∧ Lk s k (s.f x k) l
def Dk (s : Ar) : Int → Int → List Int → Prop
  | _, d, [] => d = -1
  | p, d, x :: l => d = x ∧ s.f x 2 = p ∧ Dk s x (s.f x 3) l
theorem Lk.at_ {s : Ar} {k d : Int} : ∀ {l : List Int}, Lk s k d l → d = -1 ∨ d ∈ l
  | [], h => .inl h
  | x :: l, h => .inr (by simp [h.1])
theorem Lk.congr {s s' : Ar} {k : Int} : ∀ {l : List Int} {d : Int}, (∀ x ∈ l, s'.f x k = s.f x k) → Lk s k d l → Lk s' k d l
  | [], _, _, h => h
  | x :: l, d, hc, h => ⟨h.1, by rw [hc x (by simp)]; exact Lk.congr (fun y hy => hc y (by simp [hy])) h.2⟩
theorem Lk.row {s : Ar} {k : Int} : ∀ {l : List Int} {d : Int}, Lk s k d l → (∀ x ∈ l, s.has x = true) → ∀ f, l.length ≤ f → s.rowL k f d = l
  | [], d, h, _, 0, _ => rfl
  | [], d, h, _, f + 1, _ => by rw [Ar.rowL, show d = -1 from h, Ar.has_m1]; rfl
  | x :: l, d, h, _, 0, hf => by simp at hf
  | x :: l, d, h, hh, f + 1, hf => by
    have h1 : d = x := h.1
    subst h1
    have h2 : s.cell d k = s.f d k := Ar.cell_f (hh d (by simp)) ((Lk.at_ h.2).imp id fun e => hh _ (by simp [e]))
    rw [Ar.rowL, if_pos (hh d (by simp)), h2, Lk.row h.2 (fun y hy => hh y (by simp [hy])) f (by simp at hf; omega)]
theorem Dk.lk {s : Ar} : ∀ {l : List Int} {p d : Int}, Dk s p d l → Lk s 3 d l
  | [], _, _, h => h
  | x :: l, _, _, h => ⟨h.1, Dk.lk h.2.2⟩
theorem Dk.congr {s s' : Ar} : ∀ {l : List Int} {p d : Int}, (∀ x ∈ l, s'.f x 2 = s.f x 2 ∧ s'.f x 3 = s.f x 3) → Dk s p d l → Dk s' p d l
  | [], _, _, _, h => h
  | x :: l, p, d, hc, h => ⟨h.1, by rw [(hc x (by simp)).1]; exact h.2.1, by rw [(hc x (by simp)).2]; exact Dk.congr (fun y hy => hc y (by simp [hy])) h.2.2⟩
theorem Str.ivf {s s' : Ar} {N : List Int} (h : Str s s' N) : s'.iv = s.iv := funext h.iv
def rl (r : Int) : List Int := if r = -1 then [] else [r]
theorem rl_none : rl (-1) = [] := rfl
theorem rl_some {r : Int} (h : r ≠ -1) : rl r = [r] := if_neg h
structure PMem (s : Ar) (N : List Int) (k : Int → List Int) : Prop where
  kc : ∀ n ∈ N, Dk s (-1) (s.f n 1) (k n)
  up : ∀ n ∈ N, ∀ m ∈ k n, s.f m 0 = n
def PRt (s : Ar) (R : List Int) : Prop := ∀ n ∈ R, s.f n 0 = -1 ∧ s.f n 2 = -1
theorem PMem.congr {s s' : Ar} {N : List Int} {k : Int → List Int} (h : PMem s N k) (hk : ∀ n ∈ N, ∀ m ∈ k n, m ∈ N) (hc : ∀ c ∈ N, ∀ j, 0 ≤ j → j ≤ 5 → s'.f c j = s.f c j) : PMem s' N k :=
  ⟨fun n hn => by rw [hc n hn 1 (by decide) (by decide)]; exact Dk.congr (fun x hx => ⟨hc x (hk n hn x hx) 2 (by decide) (by decide), hc x (hk n hn x hx) 3 (by decide) (by decide)⟩) (h.kc n hn), fun n hn m hm => by rw [hc m (hk n hn m hm) 0 (by decide) (by decide)]; exact h.up n hn m hm⟩
theorem PMem.sub {s : Ar} {N M : List Int} {k : Int → List Int} (h : PMem s N k) (hM : ∀ x ∈ M, x ∈ N) : PMem s M k := ⟨fun n hn => h.kc n (hM n hn), fun n hn => h.up n (hM n hn)⟩
section
variable {s : Ar} {v : Int → V3i} {R Q N : List Int} {k : Int → List Int} {n m : Int}
theorem punder_law (hf : Forest v R N k) (hb : Base s N) (hm : PMem s N k) (hr : PRt s R) (hR : R.Perm (n :: m :: Q)) :
    Str s (s.punder n m) N ∧ PMem (s.punder n m) N (updI k n (m :: k n)) ∧ PRt (s.punder n m) (n :: Q) := by
  have hnR : n ∈ R := hR.mem_iff.2 (by simp)
  have hmR : m ∈ R := hR.mem_iff.2 (by simp)
  have hn := hf.root hnR
  have hmN := hf.root hmR
  have hnd := hR.nodup_iff.1 hf.ndR
  have hnm : n ≠ m := by rw [List.nodup_cons] at hnd; exact fun e => hnd.1 (by simp [e])
  have hk := hm.kc n hn
  have hd : s.f n 1 = -1 ∨ s.f n 1 ∈ k n := Lk.at_ hk.lk
  have hdN : s.f n 1 = -1 ∨ s.f n 1 ∈ N := hd.imp id (hf.kid hn)
  have hc : s.cell n 1 = s.f n 1 := hb.cell hn hdN
  have hdm : s.f n 1 ≠ m := fun e => by
    rcases hd with h | h
    · exact hb.ne hmN (e ▸ h)
    · exact hf.notkid hmR hn (e ▸ h)
  have hs : Str s (s.punder n m) N := by
    unfold Ar.punder
    rw [hc]
    have h1 : Str s ((s.put m 0 n).put m 3 (s.f n 1)) N := (Str.put s _ hmN (by decide)).trans (Str.put _ _ hmN (by decide))
    split
    · exact h1.trans (Str.put _ _ hn (by decide))
    · rename_i hne
      exact (h1.trans (Str.put _ _ (hdN.resolve_left hne) (by decide))).trans (Str.put _ _ hn (by decide))
  have ef : ∀ c j, (s.punder n m).f c j = if c = n ∧ j = 1 then m else if s.f n 1 ≠ -1 ∧ c = s.f n 1 ∧ j = 2 then m else if c = m ∧ j = 3 then s.f n 1 else if c = m ∧ j = 0 then n else s.f c j := by
    intro c j
    unfold Ar.punder
    rw [hc]
    by_cases h1 : s.f n 1 = -1
    · rw [if_pos h1]
      simp only [Ar.put_f, Ar.put_has, hb.has n hn, hb.has m hmN, true_and, h1, ne_eq, not_true_eq_false, false_and, if_false]
    · rw [if_neg h1]
      simp only [Ar.put_f, Ar.put_has, hb.has n hn, hb.has m hmN, hb.has _ (hdN.resolve_left h1), true_and, h1, ne_eq, not_false_eq_true]
  have e3 : ∀ c, c ≠ m → (s.punder n m).f c 3 = s.f c 3 := fun c h => by rw [ef, if_neg (fun e => by omega), if_neg (fun e => by omega), if_neg (fun e => by exact h e.1), if_neg (fun e => by omega)]
  have e2 : ∀ c, c ≠ s.f n 1 → (s.punder n m).f c 2 = s.f c 2 := fun c h => by rw [ef, if_neg (fun e => by omega), if_neg (fun e => by exact h e.2.1), if_neg (fun e => by omega), if_neg (fun e => by omega)]
  have e0 : ∀ c, c ≠ m → (s.punder n m).f c 0 = s.f c 0 := fun c h => by rw [ef, if_neg (fun e => by omega), if_neg (fun e => by omega), if_neg (fun e => by omega), if_neg (fun e => by exact h e.1)]
  have e1 : ∀ c, c ≠ n → (s.punder n m).f c 1 = s.f c 1 := fun c h => by rw [ef, if_neg (fun e => by exact h e.1), if_neg (fun e => by omega), if_neg (fun e => by omega), if_neg (fun e => by omega)]
  have e0m : (s.punder n m).f m 0 = n := by rw [ef, if_neg (fun e => by omega), if_neg (fun e => by omega), if_neg (fun e => by omega), if_pos ⟨rfl, rfl⟩]
  have e3m : (s.punder n m).f m 3 = s.f n 1 := by rw [ef, if_neg (fun e => by omega), if_neg (fun e => by omega), if_pos ⟨rfl, rfl⟩]
  have e1n : (s.punder n m).f n 1 = m := by rw [ef, if_pos ⟨rfl, rfl⟩]
  refine ⟨hs, ⟨fun x hx => ?_, fun x hx y hy => ?_⟩, fun x hx => ?_⟩
  · by_cases hxn : x = n
    · subst hxn
      rw [updI_same, e1n]
      refine ⟨rfl, by rw [e2 m (Ne.symm hdm)]; exact (hr m hmR).2, ?_⟩
      rw [e3m]
      cases hkx : k x with
      | nil => rw [hkx] at hk; exact hk
      | cons y l =>
        rw [hkx] at hk
        have hyk : y ∈ k x := by rw [hkx]; simp
        have hym : ∀ z, z ∈ k x → z ≠ m := fun z hz e => hf.notkid hmR hx (e ▸ hz)
        have hkn := hf.ndK hx
        rw [hkx, List.nodup_cons] at hkn
        refine ⟨hk.1, ?_, ?_⟩
        · rw [ef, if_neg (fun e => by omega), if_pos ⟨by rw [hk.1]; exact hb.ne (hf.kid hx hyk), hk.1.symm, rfl⟩]
        · rw [e3 y (hym y hyk)]
          exact Dk.congr (fun z hz => ⟨e2 z (fun e => hkn.1 (by rw [hk.1] at e; exact e ▸ hz)), e3 z (hym z (by rw [hkx]; simp [hz]))⟩) hk.2.2
    · rw [updI_ne _ _ hxn, e1 x hxn]
      refine Dk.congr (fun z hz => ⟨e2 z fun e => ?_, e3 z fun e => hf.notkid hmR hx (e ▸ hz)⟩) (hm.kc x hx)
      rcases hd with h | h
      · exact hb.ne (hf.kid hx hz) (e.trans h)
      · exact hxn (hf.once hx hn hz (e ▸ h))
  · by_cases hxn : x = n
    · subst hxn
      rw [updI_same] at hy
      rcases List.mem_cons.1 hy with rfl | hy
      · exact e0m
      · rw [e0 y fun e => hf.notkid hmR hx (e ▸ hy)]; exact hm.up _ hx y hy
    · rw [updI_ne _ _ hxn] at hy
      rw [e0 y fun e => hf.notkid hmR hx (e ▸ hy)]
      exact hm.up x hx y hy
  · have hxR : x ∈ R := hR.mem_iff.2 (by rcases List.mem_cons.1 hx with rfl | h <;> simp [*])
    have hxm : x ≠ m := by
      rw [List.nodup_cons, List.nodup_cons] at hnd
      rcases List.mem_cons.1 hx with rfl | h
      · exact hnm
      · exact fun e => hnd.2.1 (e ▸ h)
    rw [e0 x hxm, e2 x fun e => ?_]
    · exact hr x hxR
    · rcases hd with h | h
      · exact hb.ne (hf.root hxR) (e.trans h)
      · exact hf.notkid hxR hn (e ▸ h)
theorem plink_law (hf : Forest s.iv R N k) (hb : Base s N) (hm : PMem s N k) (hr : PRt s R) (hR : R.Perm (n :: m :: Q)) :
    ∃ k', Str s (s.plink n m).1 N ∧ Forest s.iv ((s.plink n m).2 :: Q) N k' ∧ PMem (s.plink n m).1 N k' ∧ PRt (s.plink n m).1 ((s.plink n m).2 :: Q) ∧ (s.plink n m).2 ∈ N := by
  have hn := hf.root (hR.mem_iff.2 (by simp) : n ∈ R)
  have hmN := hf.root (hR.mem_iff.2 (by simp) : m ∈ R)
  have hnd := hR.nodup_iff.1 hf.ndR
  have hnm : n ≠ m := by rw [List.nodup_cons] at hnd; exact fun e => hnd.1 (by simp [e])
  unfold Ar.plink
  rw [if_neg (hb.ne hn), if_neg (fun e => by exact e.elim (hb.ne hmN) hnm)]
  cases hbf : s.nbefore m n with
  | true =>
    have hR' : R.Perm (m :: n :: Q) := hR.trans (List.Perm.swap _ _ _)
    obtain ⟨h1, h2, h3⟩ := punder_law hf hb hm hr hR'
    exact ⟨_, h1, hf.link hR' (List.Perm.refl _) ((hb.before hmN hn).1 hbf), h2, h3, hmN⟩
  | false =>
    obtain ⟨h1, h2, h3⟩ := punder_law hf hb hm hr hR
    exact ⟨_, h1, hf.link hR (List.Perm.refl _) ((hb.nbefore hmN hn (Ne.symm hnm)).1 hbf), h2, h3, hn⟩
end
theorem proot_f {s : Ar} {n : Int} (h : s.has n = true) (c j : Int) : (s.proot n).f c j = if c = n ∧ (j = 0 ∨ j = 2 ∨ j = 3) then -1 else s.f c j := by
  unfold Ar.proot
  simp only [Ar.put_f, Ar.put_has, h, true_and]
  repeat' split
  all_goals first | rfl | omega
theorem proots_law {N : List Int} {k : Int → List Int} : ∀ (l : List Int) (s : Ar) (Q : List Int), Base s N → PMem s N k → (∀ n ∈ N, ∀ m ∈ k n, m ∈ N) → (∀ x ∈ l, x ∈ N ∧ ∀ y ∈ N, x ∉ k y) → PRt s Q →
    Str s (s.proots l) N ∧ PMem (s.proots l) N k ∧ PRt (s.proots l) (l ++ Q)
  | [], s, Q, hb, hm, hk, hl, hr => ⟨Str.refl _ _, hm, hr⟩
  | x :: l, s, Q, hb, hm, hk, hl, hr => by
    obtain ⟨hx, hxk⟩ := hl x (by simp)
    have ef := proot_f (hb.has x hx)
    have hs : Str s (s.proot x) N := ((Str.put s _ hx (by decide)).trans (Str.put _ _ hx (by decide))).trans (Str.put _ _ hx (by decide))
    have hm' : PMem (s.proot x) N k := by
      refine ⟨fun n hn => ?_, fun n hn m hmk => ?_⟩
      · rw [ef, if_neg (fun e => by omega)]
        have hne : ∀ z ∈ k n, z ≠ x := fun z hz e => hxk n hn (e ▸ hz)
        exact Dk.congr (fun z hz => ⟨by rw [ef, if_neg (fun e => by exact hne z hz e.1)], by rw [ef, if_neg (fun e => by exact hne z hz e.1)]⟩) (hm.kc n hn)
      · rw [ef, if_neg (fun e => by exact hxk n hn (e.1 ▸ hmk))]
        exact hm.up n hn m hmk
    have hr' : PRt (s.proot x) (x :: Q) := fun z hz => by
      rw [ef, ef]
      by_cases e : z = x
      · rw [if_pos ⟨e, .inl rfl⟩, if_pos ⟨e, .inr (.inl rfl)⟩]; exact ⟨rfl, rfl⟩
      · rw [if_neg (fun h => by exact e h.1), if_neg (fun h => by exact e h.1)]
        exact hr z ((List.mem_cons.1 hz).resolve_left e)
    obtain ⟨h1, h2, h3⟩ := proots_law l (s.proot x) (x :: Q) (hs.base hb) hm' hk (fun y hy => hl y (by simp [hy])) hr'
    refine ⟨hs.trans h1, h2, fun z hz => h3 z ?_⟩
    simp at hz ⊢
    rcases hz with h | h | h <;> simp [h]
theorem ppairs_law {N : List Int} : ∀ (l : List Int) (s : Ar) (R Q : List Int) (k : Int → List Int), Forest s.iv R N k → Base s N → PMem s N k → PRt s R → R.Perm (l ++ Q) →
    ∃ k', Str s (s.ppairs l).1 N ∧ Forest s.iv ((s.ppairs l).2 ++ Q) N k' ∧ PMem (s.ppairs l).1 N k' ∧ PRt (s.ppairs l).1 ((s.ppairs l).2 ++ Q)
  | [], s, R, Q, k, hf, hb, hm, hr, hR => ⟨k, Str.refl _ _, hf.permR hR, hm, fun z hz => hr z (hR.mem_iff.2 hz)⟩
  | [x], s, R, Q, k, hf, hb, hm, hr, hR => ⟨k, Str.refl _ _, hf.permR hR, hm, fun z hz => hr z (hR.mem_iff.2 hz)⟩
  | x :: y :: l, s, R, Q, k, hf, hb, hm, hr, hR => by
    obtain ⟨k1, h1, h2, h3, h4, _⟩ := plink_law (Q := l ++ Q) hf hb hm hr hR
    have hp : ((s.plink x y).2 :: (l ++ Q)).Perm (l ++ (s.plink x y).2 :: Q) := List.perm_middle.symm
    obtain ⟨k2, g1, g2, g3, g4⟩ := ppairs_law l (s.plink x y).1 _ ((s.plink x y).2 :: Q) k1 (by rw [h1.ivf]; exact h2) (h1.base hb) h3 h4 hp
    have hq : ((Ar.ppairs (s.plink x y).1 l).2 ++ (s.plink x y).2 :: Q).Perm ((s.ppairs (x :: y :: l)).2 ++ Q) := List.perm_middle
    rw [h1.ivf] at g2
    exact ⟨k2, h1.trans g1, g2.permR hq, g3, fun z hz => g4 z (hq.mem_iff.2 hz)⟩
theorem pfold_law {N : List Int} : ∀ (l : List Int) (s : Ar) (R : List Int) (top : Int) (k : Int → List Int), Forest s.iv R N k → Base s N → PMem s N k → PRt s R → R.Perm (l ++ rl top) →
    ∃ k', Str s (s.pfold l top).1 N ∧ Forest s.iv (rl (s.pfold l top).2) N k' ∧ PMem (s.pfold l top).1 N k' ∧ PRt (s.pfold l top).1 (rl (s.pfold l top).2)
  | [], s, R, top, k, hf, hb, hm, hr, hR => ⟨k, Str.refl _ _, hf.permR hR, hm, fun z hz => hr z (hR.mem_iff.2 hz)⟩
  | x :: l, s, R, top, k, hf, hb, hm, hr, hR => by
    have hx : x ≠ -1 := hb.ne (hf.root (hR.mem_iff.2 (by simp)))
    unfold Ar.pfold
    by_cases ht : top = -1
    · subst ht
      have e : s.plink x (-1) = (s, x) := by unfold Ar.plink; rw [if_neg hx, if_pos (.inl rfl)]
      rw [e]
      refine pfold_law l s R x k hf hb hm hr (hR.trans ?_)
      rw [rl_none, rl_some hx, List.append_nil]
      exact (List.perm_append_singleton x l).symm
    · have hR' : R.Perm (x :: top :: l) := hR.trans (by rw [rl_some ht]; exact List.Perm.cons _ (List.perm_append_singleton top l))
      obtain ⟨k1, h1, h2, h3, h4, h5⟩ := plink_law hf hb hm hr hR'
      obtain ⟨k2, g1, g2, g3, g4⟩ := pfold_law l (s.plink x top).1 _ (s.plink x top).2 k1 (by rw [h1.ivf]; exact h2) (h1.base hb) h3 h4 (by rw [rl_some (hb.ne h5)]; exact (List.perm_append_singleton _ l).symm)
      rw [h1.ivf] at g2
      exact ⟨k2, h1.trans g1, g2, g3, g4⟩
def PHeap (s : Ar) (r : Int) (N : List Int) : Prop := ∃ k, Forest s.iv (rl r) N k ∧ Base s N ∧ PMem s N k ∧ PRt s (rl r)
theorem PHeap.none {s : Ar} : PHeap s (-1) [] := ⟨fun _ => [], Forest.nil _ _, ⟨by simp, by simp, by simp, by simp⟩, ⟨by simp, by simp⟩, by simp [PRt, rl]⟩
theorem PHeap.paired {s : Ar} {l N : List Int} {k : Int → List Int} (hf : Forest s.iv l N k) (hb : Base s N) (hm : PMem s N k) : Str s (s.paired l).1 N ∧ PHeap (s.paired l).1 (s.paired l).2 N := by
  obtain ⟨h1, h2, h3⟩ := proots_law l s [] hb hm (fun n hn m => hf.kid hn) (fun x hx => ⟨hf.root hx, fun y hy => hf.notkid hx hy⟩) (by simp [PRt])
  rw [List.append_nil] at h3
  obtain ⟨k1, g1, g2, g3, g4⟩ := ppairs_law l (s.proots l) l [] k (by rw [h1.ivf]; exact hf) (h1.base hb) h2 h3 (by simp)
  have hb1 := g1.base (h1.base hb)
  rw [List.append_nil] at g2 g4
  obtain ⟨k2, j1, j2, j3, j4⟩ := pfold_law ((s.proots l).ppairs l).2.reverse ((s.proots l).ppairs l).1 _ (-1) k1 (by rw [g1.ivf]; exact g2) hb1 g3 g4 (by rw [rl_none, List.append_nil]; exact (List.reverse_perm _).symm)
  unfold Ar.paired
  exact ⟨(h1.trans g1).trans j1, k2, by rw [j1.ivf]; exact j2, j1.base hb1, j3, j4⟩
theorem PHeap.least {s : Ar} {r : Int} {N : List Int} (h : PHeap s r N) (hr : r ≠ -1) : r ∈ N ∧ ∀ m ∈ N, m ≠ r → lt3 (s.iv r) (s.iv m) := by
  obtain ⟨k, hf, _⟩ := h
  rw [rl_some hr] at hf
  exact ⟨hf.root (by simp), hf.least (by simp) (by simp)⟩
theorem PHeap.empty {s : Ar} {N : List Int} (h : PHeap s (-1) N) : N = [] := by
  obtain ⟨k, hf, _⟩ := h
  by_cases e : N = []
  · exact e
  · obtain ⟨x, hx, hl⟩ := list_least s.iv N e
    rcases List.mem_append.1 (hf.perm.mem_iff.2 hx) with h1 | h1
    · cases h1
    · obtain ⟨p, hp, hk⟩ := List.mem_flatMap.1 h1
      have h2 := hf.ord p hp x hk
      rcases hl p hp with h3 | h3
      · rw [h3] at h2; exact absurd h2 (lt3_irrefl _)
      · exact absurd h2 (lt3_asymm h3)
section
variable {s : Ar} {r i : Int} {N M : List Int}
theorem PHeap.push (hok : s.Ok) (ht : s.take.2.1 = true) (hi : s.has i = true) (hiN : i ∉ N) (hiI : ∀ m ∈ N, s.f m 6 ≠ i) (h : PHeap s r N) :
    PHeap (s.ppush r i).1 (s.ppush r i).2 (s.take.1 :: N) ∧ Str (s.newNode i) (s.ppush r i).1 (s.take.1 :: N) := by
  obtain ⟨k, hf, hb, hm, hr⟩ := h
  obtain ⟨hb1, hnN, hiv, hx, hne, _, _, _⟩ := Base.newNode hok ht hi hiN hiI hb
  have eo : ∀ c, c ≠ s.take.1 → ∀ j, j ≠ 9 → (s.newNode i).f c j = s.f c j := fun c hc j hj => by rw [Ar.newNode_f hok ht hi, if_neg (fun e => by exact hj e.2), if_neg (fun e => by exact hc e.1), if_neg hc]
  have en : ∀ j, j ≤ 5 → (s.newNode i).f s.take.1 j = freshF j := fun j hj => by rw [Ar.newNode_f hok ht hi, if_neg (fun e => by omega), if_neg (fun e => by omega), if_pos rfl]
  have hmn : ∀ m ∈ N, m ≠ s.take.1 := fun m hm e => hnN (e ▸ hm)
  have hf1 : Forest (s.newNode i).iv (s.take.1 :: rl r) (s.take.1 :: N) (updI k s.take.1 []) :=
    (hf.congr hiv fun _ _ => rfl).add hnN fun m hm e => hmn m hm (hb1.inj m (by simp [hm]) _ (by simp) e)
  have hm1 : PMem (s.newNode i) (s.take.1 :: N) (updI k s.take.1 []) := by
    refine ⟨fun n hn => ?_, fun n hn m hmk => ?_⟩
    · rcases List.mem_cons.1 hn with rfl | hn
      · rw [updI_same, en 1 (by decide)]; rfl
      · rw [updI_ne _ _ (hmn n hn), eo n (hmn n hn) 1 (by decide)]
        exact Dk.congr (fun x hx => ⟨eo x (hmn x (hf.kid hn hx)) 2 (by decide), eo x (hmn x (hf.kid hn hx)) 3 (by decide)⟩) (hm.kc n hn)
    · rcases List.mem_cons.1 hn with rfl | hn
      · rw [updI_same] at hmk; cases hmk
      · rw [updI_ne _ _ (hmn n hn)] at hmk
        rw [eo m (hmn m (hf.kid hn hmk)) 0 (by decide)]
        exact hm.up n hn m hmk
  have hr1 : PRt (s.newNode i) (s.take.1 :: rl r) := fun z hz => by
    rcases List.mem_cons.1 hz with rfl | hz
    · rw [en 0 (by decide), en 2 (by decide)]; exact ⟨rfl, rfl⟩
    · have := hmn z (hf.root hz)
      rw [eo z this 0 (by decide), eo z this 2 (by decide)]
      exact hr z hz
  unfold Ar.ppush
  by_cases hr0 : r = -1
  · subst hr0
    have e : (s.newNode i).plink (-1) s.take.1 = (s.newNode i, s.take.1) := by unfold Ar.plink; rw [if_pos rfl]
    rw [e]
    refine ⟨⟨_, ?_, hb1, hm1, ?_⟩, Str.refl _ _⟩
    · rw [rl_some (hb1.ne (by simp))]; exact hf1
    · rw [rl_some (hb1.ne (by simp))]; exact hr1
  · rw [rl_some hr0] at hf1 hr1
    obtain ⟨k', h1, h2, h3, h4, h5⟩ := plink_law (Q := []) hf1 hb1 hm1 hr1 (List.Perm.swap _ _ _)
    exact ⟨⟨k', by rw [h1.ivf, rl_some (hb1.ne h5)]; exact h2, h1.base hb1, h3, by rw [rl_some (hb1.ne h5)]; exact h4⟩, h1⟩
theorem PHeap.pop (hr : r ≠ -1) (hN : N.Perm (r :: M)) (h : PHeap s r N) :
    PHeap (s.ppop r).1 (s.ppop r).2.1 M ∧ Str (s.endNode r) (s.ppop r).1 M ∧ (s.ppop r).2.2 = s.f r 6 ∧ (s.pkids r).length < N.length := by
  obtain ⟨k, hf, hb, hm, _⟩ := h
  rw [rl_some hr] at hf
  have hrN : r ∈ N := hf.root (by simp)
  have hb1 := hb.endNode hf.nd hN
  have hf1 : Forest (s.endNode r).iv (k r) M k := by
    have := hf.drop (List.Perm.refl _) hN
    rw [List.append_nil] at this
    exact this.congr (fun n _ => Ar.endNode_iv hb hrN n) fun _ _ => rfl
  have hm1 : PMem (s.endNode r) M k := (hm.sub fun x hx => hN.mem_iff.2 (by simp [hx])).congr (fun n hn m => hf1.kid hn) fun c hc j h0 h5 => by rw [Ar.endNode_f hb hrN, if_neg (fun e => by omega)]
  have hkd : k r = s.pkids r := by
    unfold Ar.pkids
    have hl := (hm.kc r hrN).lk
    rw [hb.cell hrN ((Lk.at_ hl).imp id (hf.kid hrN))]
    exact (Lk.row hl (fun x hx => hb.has x (hf.kid hrN hx)) _ (hb.le (hf.ndK hrN) fun x hx => hf.kid hrN hx)).symm
  have hlen : (k r).length < N.length := by
    have h1 : (r :: k r).Nodup := List.nodup_cons.2 ⟨hf.self hrN, hf.ndK hrN⟩
    have := nodup_sub _ N h1 fun x hx => by
      rcases List.mem_cons.1 hx with rfl | hx
      · exact hrN
      · exact hf.kid hrN hx
    simp only [List.length_cons] at this
    omega
  rw [hkd] at hf1 hlen
  obtain ⟨h1, h2⟩ := PHeap.paired hf1 hb1 hm1
  exact ⟨h2, h1, hb.cell6 hrN, hlen⟩
end
end Go.Proofs.YtognmhgdegpdiaaGreat
end
section
/- Fibonacci heaps are forests whose roots, and whose children, lie in rings. -/
namespace Go.Proofs.YtognmhgdegpdiaaGreat
set_option linter.unusedVariables false
set_option linter.unusedSimpArgs false
def Pth (s : Ar) : Int → List Int → Int → Prop
  | a, [], b => s.f a 3 = b ∧ s.f b 2 = a
  | a, x :: l, b => s.f a 3 = x ∧ s.f x 2 = a ∧ Pth s x l b
def Rg (s : Ar) (d : Int) : List Int → Prop
  | [] => d = -1
  | x :: l => d = x ∧ Pth s x l x
theorem Pth.congr {s s' : Ar} : ∀ {l : List Int} {a b : Int}, (∀ x ∈ a :: l, s'.f x 3 = s.f x 3) → (∀ x ∈ l, s'.f x 2 = s.f x 2) → s'.f b 2 = s.f b 2 → Pth s a l b → Pth s' a l b
  | [], a, b, h3, h2, hb, h => ⟨by rw [h3 a (by simp)]; exact h.1, by rw [hb]; exact h.2⟩
  | x :: l, a, b, h3, h2, hb, h => ⟨by rw [h3 a (by simp)]; exact h.1, by rw [h2 x (by simp)]; exact h.2.1, Pth.congr (fun y hy => h3 y (by simp at hy ⊢; exact .inr hy)) (fun y hy => h2 y (by simp [hy])) hb h.2.2⟩
theorem Pth.app {s : Ar} : ∀ {l : List Int} {a x b : Int} {l2 : List Int}, Pth s a (l ++ x :: l2) b ↔ Pth s a l x ∧ Pth s x l2 b
  | [], a, x, b, l2 => by simp [Pth, and_assoc]
  | y :: l, a, x, b, l2 => by simp only [List.cons_append, Pth, Pth.app (l := l), and_assoc]
theorem Pth.prev {s : Ar} : ∀ {l : List Int} {a b : Int}, Pth s a l b → s.f b 2 = (a :: l).getLast (by simp)
  | [], a, b, h => h.2
  | x :: l, a, b, h => by rw [Pth.prev h.2.2]; simp
theorem Pth.turn {s s' : Ar} {q : Int} : ∀ {l : List Int} {a b p : Int}, Pth s a l b → (a :: l).Nodup → p = (a :: l).getLast (by simp) → (∀ x ∈ a :: l, x ≠ p → s'.f x 3 = s.f x 3) → (∀ x ∈ l, s'.f x 2 = s.f x 2) → s'.f p 3 = q → s'.f q 2 = p → Pth s' a l q
  | [], a, b, p, h, hd, hp, h3, h2, e3, e2 => by
    have : p = a := by simpa using hp
    subst this
    exact ⟨e3, e2⟩
  | x :: l, a, b, p, h, hd, hp, h3, h2, e3, e2 => by
    rw [List.nodup_cons] at hd
    have hp' : p = (x :: l).getLast (by simp) := by simpa using hp
    have hap : a ≠ p := fun e => hd.1 (by rw [e, hp']; exact List.getLast_mem _)
    exact ⟨by rw [h3 a (by simp) hap]; exact h.1, by rw [h2 x (by simp)]; exact h.2.1, Pth.turn h.2.2 hd.2 hp' (fun y hy => h3 y (by simp at hy ⊢; exact .inr hy)) (fun y hy => h2 y (by simp [hy])) e3 e2⟩
theorem Rg.at_ {s : Ar} {d : Int} : ∀ {l : List Int}, Rg s d l → d = -1 ∨ d ∈ l
  | [], h => .inl h
  | x :: l, h => .inr (by simp [h.1])
theorem Rg.congr {s s' : Ar} {d : Int} : ∀ {l : List Int}, (∀ x ∈ l, s'.f x 2 = s.f x 2 ∧ s'.f x 3 = s.f x 3) → Rg s d l → Rg s' d l
  | [], _, h => h
  | x :: l, hc, h => ⟨h.1, Pth.congr (fun y hy => (hc y hy).2) (fun y hy => (hc y (by simp [hy])).1) (hc x (by simp)).1 h.2⟩
theorem Rg.turn {s : Ar} {d x : Int} {l m : List Int} (h : Rg s d (l ++ x :: m)) : Rg s x (x :: m ++ l) := by
  cases l with
  | nil => exact ⟨rfl, by show Pth s x (m ++ []) x; rw [List.append_nil]; exact h.2⟩
  | cons y l =>
    have h2 := Pth.app.1 h.2
    exact ⟨rfl, Pth.app.2 ⟨h2.2, h2.1⟩⟩
theorem ringL_law {s : Ar} {c : Int} : ∀ {l : List Int} {a : Int}, Pth s a l c → c ∉ l → (∀ x ∈ l, s.has x = true) → s.has c = true → ∀ f, l.length ≤ f → s.ringL c f (s.f a 3) = l
  | [], a, h, _, _, _, 0, _ => rfl
  | [], a, h, _, _, _, f + 1, _ => by rw [Ar.ringL, if_neg (fun e => by exact e.1 h.1)]
  | x :: l, a, h, _, _, _, 0, hf => by simp at hf
  | x :: l, a, h, hc, hh, hcc, f + 1, hf => by
    have hx := hh x (by simp)
    have hcell : s.cell x 3 = s.f x 3 := Ar.cell_f hx (.inr (by
      cases l with
      | nil => rw [h.2.2.1]; exact hcc
      | cons y l => rw [h.2.2.1]; exact hh y (by simp)))
    rw [h.1, Ar.ringL, if_pos ⟨fun e => hc (by simp [e]), hx⟩, hcell, ringL_law h.2.2 (fun e => hc (by simp [e])) (fun y hy => hh y (by simp [hy])) hcc f (by simp at hf; omega)]
theorem ring_law {s : Ar} {c : Int} {l : List Int} (h : Rg s c (c :: l)) (hd : (c :: l).Nodup) (hh : ∀ x ∈ c :: l, s.has x = true) : s.ring c = c :: l := by
  rw [List.nodup_cons] at hd
  have hl : (c :: l).length ≤ s.n := nodup_le s.n _ (List.nodup_cons.2 hd) fun x hx => by have := Ar.has_iff.1 (hh x hx); omega
  have hc := hh c (by simp)
  have hcell : s.cell c 3 = s.f c 3 := Ar.cell_f hc (.inr (by
    cases l with
    | nil => rw [h.2.1]; exact hc
    | cons y l => rw [h.2.1]; exact hh y (by simp)))
  unfold Ar.ring
  rw [if_pos hc, hcell, ringL_law h.2 hd.1 (fun x hx => hh x (by simp [hx])) hc _ (by simp at hl; omega)]
theorem clink_f {s : Ar} {c d : Int} (hc : s.has c = true) (hd : s.has d = true) (e j : Int) : (s.clink c d).f e j = if e = d ∧ j = 2 then c else if e = c ∧ j = 3 then d else s.f e j := by
  unfold Ar.clink
  simp only [Ar.put_f, Ar.put_has, hc, hd, true_and]
theorem clink_has (s : Ar) (c d x : Int) : (s.clink c d).has x = s.has x := by unfold Ar.clink; rw [Ar.put_has, Ar.put_has]
theorem clink_str {s : Ar} {c d : Int} {N : List Int} (hc : c ∈ N) (hd : d ∈ N) : Str s (s.clink c d) N := (Str.put s _ hc (by decide)).trans (Str.put _ _ hd (by decide))
theorem cput_law {s : Ar} {c d : Int} {l : List Int} (h : Pth s c l c) (hn : (c :: l).Nodup) (hd : d ∉ c :: l) (hh : ∀ x ∈ c :: l, s.has x = true) (hhd : s.has d = true) :
    Pth (s.cput c d) c (d :: l) c ∧ (∀ x, x ∉ d :: c :: l → ∀ j, (s.cput c d).f x j = s.f x j) ∧ (∀ x j, j ≠ 2 → j ≠ 3 → (s.cput c d).f x j = s.f x j) ∧ ∀ N, d ∈ N → (∀ x ∈ c :: l, x ∈ N) → Str s (s.cput c d) N := by
  rw [List.nodup_cons] at hn
  have hc := hh c (by simp)
  have hnx : s.f c 3 ∈ c :: l := by
    cases l with
    | nil => rw [h.1]; simp
    | cons y l => rw [h.1]; simp
  have hcell : s.cell c 3 = s.f c 3 := Ar.cell_f hc (.inr (hh _ hnx))
  have ef : ∀ e j, (s.cput c d).f e j = if e = s.f c 3 ∧ j = 2 then d else if e = d ∧ j = 3 then s.f c 3 else if e = d ∧ j = 2 then c else if e = c ∧ j = 3 then d else s.f e j := fun e j => by
    unfold Ar.cput
    rw [hcell, clink_f (by rw [clink_has]; exact hhd) (by rw [clink_has]; exact hh _ hnx), clink_f hc hhd]
  have hcd : c ≠ d := fun e => hd (by simp [e])
  have hnd : s.f c 3 ≠ d := fun e => hd (e ▸ hnx)
  refine ⟨⟨?_, ?_, ?_⟩, fun x hx j => ?_, fun x j h2 h3 => ?_, fun N h1 h2 => ?_⟩
  · rw [ef, if_neg (fun e => by omega), if_neg (fun e => by exact hcd e.1), if_neg (fun e => by omega), if_pos ⟨rfl, rfl⟩]
  · rw [ef, if_neg (fun e => by exact hnd e.1.symm), if_neg (fun e => by omega), if_pos ⟨rfl, rfl⟩]
  · cases l with
    | nil =>
      have e1 : s.f c 3 = c := h.1
      refine ⟨?_, ?_⟩
      · rw [ef, if_neg (fun e => by omega), if_pos ⟨rfl, rfl⟩]; exact e1
      · rw [ef, if_pos ⟨e1.symm, rfl⟩]
    | cons y l =>
      have e1 : s.f c 3 = y := h.1
      rw [List.nodup_cons] at hn
      have hyc : y ≠ c := fun e => hn.1 (by simp [e])
      have hdl : ∀ x ∈ y :: l, x ≠ d := fun x hx e => hd (by rw [← e]; simp [List.mem_cons.1 hx])
      refine ⟨?_, ?_, Pth.congr (fun x hx => ?_) (fun x hx => ?_) ?_ h.2.2⟩
      · rw [ef, if_neg (fun e => by omega), if_pos ⟨rfl, rfl⟩]; exact e1
      · rw [ef, if_pos ⟨e1.symm, rfl⟩]
      · rw [ef, if_neg (fun e => by omega), if_neg (fun e => by exact hdl x hx e.1), if_neg (fun e => by omega), if_neg (fun e => by exact hn.1 (e.1 ▸ hx))]
      · rw [ef, if_neg (fun e => by exact hn.2.1 (by rw [← e1, ← e.1]; exact hx)), if_neg (fun e => by omega), if_neg (fun e => by exact hdl x (by simp [hx]) e.1), if_neg (fun e => by omega)]
      · rw [ef, if_neg (fun e => by exact hyc (by rw [← e1, ← e.1])), if_neg (fun e => by omega), if_neg (fun e => by exact hcd e.1), if_neg (fun e => by omega)]
  · rw [ef, if_neg, if_neg, if_neg, if_neg]
    · intro e; exact hx (by simp [e.1])
    · intro e; exact hx (by simp [e.1])
    · intro e; exact hx (by simp [e.1])
    · intro e; exact hx (List.mem_cons_of_mem _ (by rw [e.1]; exact hnx))
  · rw [ef, if_neg (fun e => by exact h2 e.2), if_neg (fun e => by exact h3 e.2), if_neg (fun e => by exact h2 e.2), if_neg (fun e => by exact h3 e.2)]
  · exact (clink_str (h2 c (by simp)) h1).trans (clink_str h1 (by rw [hcell]; exact h2 _ hnx))
theorem cjoin_law {s : Ar} {c d : Int} {l m : List Int} (h : Pth s c l c) (h' : Pth s d m d) (hn : (c :: l ++ d :: m).Nodup) (hh : ∀ x ∈ c :: l, s.has x = true) (hh' : ∀ x ∈ d :: m, s.has x = true) :
    Pth (s.cjoin c d) c (d :: m ++ l) c ∧ (∀ x j, j ≠ 2 → j ≠ 3 → (s.cjoin c d).f x j = s.f x j) ∧ (∀ x, x ∉ c :: l → x ∉ d :: m → ∀ j, (s.cjoin c d).f x j = s.f x j) ∧ ∀ N, (∀ x ∈ c :: l, x ∈ N) → (∀ x ∈ d :: m, x ∈ N) → Str s (s.cjoin c d) N := by
  obtain ⟨hn1, hn2, hn3⟩ := List.nodup_append.1 hn
  have hc := hh c (by simp)
  have hdd := hh' d (by simp)
  have hnx : s.f c 3 ∈ c :: l := by
    cases l with
    | nil => rw [h.1]; simp
    | cons y l => rw [h.1]; simp
  have hpv : s.f d 2 = (d :: m).getLast (by simp) := h'.prev
  have hpm : s.f d 2 ∈ d :: m := by rw [hpv]; exact List.getLast_mem _
  have hcell : s.cell c 3 = s.f c 3 := Ar.cell_f hc (.inr (hh _ hnx))
  have hcel2 : s.cell d 2 = s.f d 2 := Ar.cell_f hdd (.inr (hh' _ hpm))
  have ef : ∀ e j, (s.cjoin c d).f e j = if e = s.f c 3 ∧ j = 2 then s.f d 2 else if e = s.f d 2 ∧ j = 3 then s.f c 3 else if e = d ∧ j = 2 then c else if e = c ∧ j = 3 then d else s.f e j := fun e j => by
    unfold Ar.cjoin
    rw [hcell, hcel2, clink_f (by rw [clink_has]; exact hh' _ hpm) (by rw [clink_has]; exact hh _ hnx), clink_f hc hdd]
  have dj : ∀ x ∈ c :: l, ∀ y ∈ d :: m, x ≠ y := hn3
  refine ⟨⟨?_, ?_, ?_⟩, fun x j h2 h3 => ?_, fun x hx hx' j => ?_, fun N h1 h2 => ?_⟩
  · rw [ef, if_neg (fun e => by omega), if_neg (fun e => by exact dj c (by simp) _ hpm e.1), if_neg (fun e => by omega), if_pos ⟨rfl, rfl⟩]
  · rw [ef, if_neg (fun e => by exact dj _ hnx d (by simp) e.1.symm), if_neg (fun e => by omega), if_pos ⟨rfl, rfl⟩]
  · have key : Pth (s.cjoin c d) d m (s.f c 3) := by
      refine Pth.turn h' hn2 hpv (fun x hx hne => ?_) (fun x hx => ?_) ?_ ?_
      · rw [ef, if_neg (fun e => by omega), if_neg (fun e => by exact hne e.1), if_neg (fun e => by omega), if_neg (fun e => by exact dj c (by simp) x hx e.1.symm)]
      · rw [List.nodup_cons] at hn2
        rw [ef, if_neg (fun e => by exact dj _ hnx x (by simp [hx]) e.1.symm), if_neg (fun e => by omega), if_neg (fun e => by exact hn2.1 (e.1 ▸ hx)), if_neg (fun e => by omega)]
      · rw [ef, if_neg (fun e => by omega), if_pos ⟨rfl, rfl⟩]
      · rw [ef, if_pos ⟨rfl, rfl⟩]
    cases l with
    | nil =>
      have e1 : s.f c 3 = c := h.1
      rw [e1] at key
      show Pth _ d (m ++ []) c
      rw [List.append_nil]
      exact key
    | cons y l =>
      have e1 : s.f c 3 = y := h.1
      rw [e1] at key
      rw [List.nodup_cons, List.nodup_cons] at hn1
      refine Pth.app.2 ⟨key, Pth.congr (fun x hx => ?_) (fun x hx => ?_) ?_ h.2.2⟩
      · rw [ef, if_neg (fun e => by omega), if_neg (fun e => by exact dj x (List.mem_cons_of_mem _ hx) _ hpm e.1), if_neg (fun e => by omega), if_neg (fun e => by exact hn1.1 (e.1 ▸ hx))]
      · rw [ef, if_neg (fun e => by exact hn1.2.1 (by rw [← e1, ← e.1]; exact hx)), if_neg (fun e => by omega), if_neg (fun e => by exact dj x (by simp [hx]) d (by simp) e.1), if_neg (fun e => by omega)]
      · rw [ef, if_neg (fun e => by exact hn1.1 (by rw [e.1, e1]; simp)), if_neg (fun e => by omega), if_neg (fun e => by exact dj c (by simp) d (by simp) e.1), if_neg (fun e => by omega)]
  · rw [ef, if_neg (fun e => by exact h2 e.2), if_neg (fun e => by exact h3 e.2), if_neg (fun e => by exact h2 e.2), if_neg (fun e => by exact h3 e.2)]
  · rw [ef, if_neg, if_neg, if_neg, if_neg]
    · intro e; exact hx (by simp [e.1])
    · intro e; exact hx' (by simp [e.1])
    · intro e; exact hx' (by rw [e.1]; exact hpm)
    · intro e; exact hx (by rw [e.1]; exact hnx)
  · exact (clink_str (h1 c (by simp)) (h2 d (by simp))).trans (clink_str (by rw [hcel2]; exact h2 _ hpm) (by rw [hcell]; exact h1 _ hnx))
theorem cout_law {s : Ar} {c : Int} {l : List Int} (h : Pth s c l c) (hn : (c :: l).Nodup) (hh : ∀ x ∈ c :: l, s.has x = true) :
    Rg (s.cout c).2 (s.cout c).1 l ∧ Pth (s.cout c).2 c [] c ∧ (∀ x j, j ≠ 2 → j ≠ 3 → (s.cout c).2.f x j = s.f x j) ∧ (∀ x, x ∉ c :: l → ∀ j, (s.cout c).2.f x j = s.f x j) ∧ ∀ N, (∀ x ∈ c :: l, x ∈ N) → Str s (s.cout c).2 N := by
  have hc := hh c (by simp)
  cases l with
  | nil =>
    have e1 : s.f c 3 = c := h.1
    have hcell : s.cell c 3 = c := by rw [Ar.cell_f hc (.inr (by rw [e1]; exact hc)), e1]
    unfold Ar.cout
    rw [if_pos hcell]
    exact ⟨rfl, h, fun _ _ _ _ => rfl, fun _ _ _ => rfl, fun N _ => Str.refl _ _⟩
  | cons y l =>
    have e1 : s.f c 3 = y := h.1
    have hnn := hn
    rw [List.nodup_cons, List.nodup_cons] at hn
    have hyc : y ≠ c := fun e => hn.1 (by simp [e])
    have hcell : s.cell c 3 = y := by rw [Ar.cell_f hc (.inr (by rw [e1]; exact hh y (by simp))), e1]
    have hpv : s.f c 2 = (y :: l).getLast (by simp) := by have := h.2.2.prev; exact this
    have hpm : s.f c 2 ∈ y :: l := by rw [hpv]; exact List.getLast_mem _
    have hcel2 : s.cell c 2 = s.f c 2 := Ar.cell_f hc (.inr (hh _ (List.mem_cons_of_mem _ hpm)))
    have hpc : s.f c 2 ≠ c := fun e => hn.1 (e ▸ hpm)
    have hy := hh y (by simp)
    have hp := hh _ (List.mem_cons_of_mem _ hpm)
    unfold Ar.cout
    rw [hcell, if_neg hyc, hcel2]
    have ef : ∀ e j, ((s.clink (s.f c 2) y).clink c c).f e j = if e = c ∧ j = 2 then c else if e = c ∧ j = 3 then c else if e = y ∧ j = 2 then s.f c 2 else if e = s.f c 2 ∧ j = 3 then y else s.f e j := fun e j => by
      rw [clink_f (by rw [clink_has]; exact hc) (by rw [clink_has]; exact hc), clink_f hp hy]
    refine ⟨⟨rfl, Pth.turn h.2.2 (List.nodup_cons.2 hn.2) hpv (fun x hx hne => ?_) (fun x hx => ?_) ?_ ?_⟩, ⟨?_, ?_⟩, fun x j h2 h3 => ?_, fun x hx j => ?_, fun N h1 => ?_⟩
    · have hxc : x ≠ c := fun e => hn.1 (e ▸ hx)
      rw [ef, if_neg (fun e => by omega), if_neg (fun e => by exact hxc e.1), if_neg (fun e => by omega), if_neg (fun e => by exact hne e.1)]
    · have hxc : x ≠ c := fun e => hn.1 (by rw [← e]; simp [hx])
      rw [ef, if_neg (fun e => by exact hxc e.1), if_neg (fun e => by omega), if_neg (fun e => by exact hn.2.1 (e.1 ▸ hx)), if_neg (fun e => by omega)]
    · rw [ef, if_neg (fun e => by omega), if_neg (fun e => by exact hpc e.1), if_neg (fun e => by omega), if_pos ⟨rfl, rfl⟩]
    · rw [ef, if_neg (fun e => by exact hyc e.1), if_neg (fun e => by omega), if_pos ⟨rfl, rfl⟩]
    · rw [ef, if_neg (fun e => by omega), if_pos ⟨rfl, rfl⟩]
    · rw [ef, if_pos ⟨rfl, rfl⟩]
    · rw [ef, if_neg (fun e => by exact h2 e.2), if_neg (fun e => by exact h3 e.2), if_neg (fun e => by exact h2 e.2), if_neg (fun e => by exact h3 e.2)]
    · rw [ef, if_neg, if_neg, if_neg, if_neg]
      · intro e; exact hx (by rw [e.1]; exact List.mem_cons_of_mem _ hpm)
      · intro e; exact hx (by simp [e.1])
      · intro e; exact hx (by simp [e.1])
      · intro e; exact hx (by simp [e.1])
    · exact (clink_str (h1 _ (List.mem_cons_of_mem _ hpm)) (h1 y (by simp))).trans (clink_str (h1 c (by simp)) (h1 c (by simp)))
end Go.Proofs.YtognmhgdegpdiaaGreat
end
section
/- Fibonacci heaps: trees under trees, trees of unlike ranks, the calls. -/
namespace Go.Proofs.YtognmhgdegpdiaaGreat
set_option linter.unusedVariables false
set_option linter.unusedSimpArgs false
structure FMem (s : Ar) (N : List Int) (k : Int → List Int) : Prop where
  kc : ∀ n ∈ N, Rg s (s.f n 1) (k n)
  up : ∀ n ∈ N, ∀ m ∈ k n, s.f m 0 = n
def FRk (s : Ar) (N : List Int) (k : Int → List Int) : Prop := ∀ n ∈ N, s.f n 4 = (k n).length
def FRt (s : Ar) (R : List Int) : Prop := ∀ n ∈ R, s.f n 0 = -1
theorem FMem.congr {s s' : Ar} {N : List Int} {k : Int → List Int} (h : FMem s N k) (hk : ∀ n ∈ N, ∀ m ∈ k n, m ∈ N) (h1 : ∀ c ∈ N, s'.f c 1 = s.f c 1) (hc : ∀ n ∈ N, ∀ c ∈ k n, s'.f c 2 = s.f c 2 ∧ s'.f c 3 = s.f c 3 ∧ s'.f c 0 = s.f c 0) : FMem s' N k :=
  ⟨fun n hn => by rw [h1 n hn]; exact Rg.congr (fun x hx => ⟨(hc n hn x hx).1, (hc n hn x hx).2.1⟩) (h.kc n hn), fun n hn m hm => by rw [(hc n hn m hm).2.2]; exact h.up n hn m hm⟩
theorem FMem.sub {s : Ar} {N M : List Int} {k : Int → List Int} (h : FMem s N k) (hM : ∀ x ∈ M, x ∈ N) : FMem s M k := ⟨fun n hn => h.kc n (hM n hn), fun n hn => h.up n (hM n hn)⟩
def fins (l : List Int) (n : Int) : List Int := match l with
  | [] => [n]
  | d :: l => d :: n :: l
theorem fins_perm (l : List Int) (n : Int) : (fins l n).Perm (n :: l) := by
  cases l with
  | nil => exact List.Perm.refl _
  | cons d l => exact List.Perm.swap _ _ _
section
variable {s : Ar} {v : Int → V3i} {R Q N : List Int} {k : Int → List Int} {n m : Int}
theorem funder_law (hf : Forest v R N k) (hb : Base s N) (hm : FMem s N k) (hR : R.Perm (m :: n :: Q)) :
    Str s (s.funder n m) N ∧ FMem (s.funder n m) N (updI k m (fins (k m) n)) ∧ (∀ x ∈ Q, (s.funder n m).f x 0 = s.f x 0) ∧ (s.funder n m).f m 0 = s.f m 0 ∧ ∀ x, (s.funder n m).f x 4 = s.f x 4 := by
  have hmR : m ∈ R := hR.mem_iff.2 (by simp)
  have hnR : n ∈ R := hR.mem_iff.2 (by simp)
  have hmN := hf.root hmR
  have hnN := hf.root hnR
  have hnd := hR.nodup_iff.1 hf.ndR
  have hnm : m ≠ n := by rw [List.nodup_cons] at hnd; exact fun e => hnd.1 (by simp [e])
  have hnQ : ∀ x ∈ Q, x ≠ n := fun x hx e => by rw [List.nodup_cons, List.nodup_cons] at hnd; exact hnd.2.1 (e ▸ hx)
  have hnk : ∀ x ∈ N, n ∉ k x := fun x hx => hf.notkid hnR hx
  have hn1 := hb.has n hnN
  have hm1 := hb.has m hmN
  have hd : s.f m 1 = -1 ∨ s.f m 1 ∈ k m := Rg.at_ (hm.kc m hmN)
  have s1 : Str s (s.clink n n) N := clink_str hnN hnN
  have ec := clink_f hn1 hn1
  have e1 : (s.clink n n).f m 1 = s.f m 1 := by rw [ec, if_neg (fun e => by omega), if_neg (fun e => by omega)]
  have hcell : (s.clink n n).cell m 1 = s.f m 1 := by
    rw [← e1]
    exact Ar.cell_f (by rw [clink_has]; exact hm1) (by rw [e1]; exact hd.imp id fun h => by rw [clink_has]; exact hb.has _ (hf.kid hmN h))
  -- what lies in the rings, when the tree is put in
  have key : ∀ s2 : Ar, Str s s2 N → (∀ x ∈ N, x ≠ m → s2.f x 1 = s.f x 1) → Rg s2 (s2.f m 1) (fins (k m) n) → (∀ x ∈ N, x ≠ m → ∀ y ∈ k x, s2.f y 2 = s.f y 2 ∧ s2.f y 3 = s.f y 3) → (∀ x, s2.f x 0 = s.f x 0) → (∀ x, s2.f x 4 = s.f x 4) →
      Str s ((s2.put n 0 m).put n 5 0) N ∧ FMem ((s2.put n 0 m).put n 5 0) N (updI k m (fins (k m) n)) ∧ (∀ x ∈ Q, ((s2.put n 0 m).put n 5 0).f x 0 = s.f x 0) ∧ ((s2.put n 0 m).put n 5 0).f m 0 = s.f m 0 ∧ ∀ x, ((s2.put n 0 m).put n 5 0).f x 4 = s.f x 4 := by
    intro s2 hs h1 hr h23 h0 h4
    have ef : ∀ c j, ((s2.put n 0 m).put n 5 0).f c j = if c = n ∧ j = 5 then 0 else if c = n ∧ j = 0 then m else s2.f c j := fun c j => by
      simp only [Ar.put_f, Ar.put_has, hs.has, hn1, true_and]
    have eo : ∀ c j, j ≠ 0 → j ≠ 5 → ((s2.put n 0 m).put n 5 0).f c j = s2.f c j := fun c j h1 h2 => by rw [ef, if_neg (fun e => by exact h2 e.2), if_neg (fun e => by exact h1 e.2)]
    have e0 : ∀ c, c ≠ n → ((s2.put n 0 m).put n 5 0).f c 0 = s.f c 0 := fun c h => by rw [ef, if_neg (fun e => by exact h e.1), if_neg (fun e => by exact h e.1), h0]
    refine ⟨(hs.trans (Str.put _ _ hnN (by decide))).trans (Str.put _ _ hnN (by decide)), ⟨fun x hx => ?_, fun x hx y hy => ?_⟩, fun x hx => e0 x (hnQ x hx), e0 m hnm, fun x => by rw [eo x 4 (by decide) (by decide), h4]⟩
    · rw [eo x 1 (by decide) (by decide)]
      by_cases hxm : x = m
      · subst hxm
        rw [updI_same]
        exact Rg.congr (fun y hy => ⟨eo y 2 (by decide) (by decide), eo y 3 (by decide) (by decide)⟩) hr
      · rw [updI_ne _ _ hxm, h1 x hx hxm]
        exact Rg.congr (fun y hy => ⟨by rw [eo y 2 (by decide) (by decide)]; exact (h23 x hx hxm y hy).1, by rw [eo y 3 (by decide) (by decide)]; exact (h23 x hx hxm y hy).2⟩) (hm.kc x hx)
    · by_cases hxm : x = m
      · subst hxm
        rw [updI_same] at hy
        rcases List.mem_cons.1 ((fins_perm _ _).mem_iff.1 hy) with e | hy
        · rw [e, ef, if_neg (fun e => by omega), if_pos ⟨rfl, rfl⟩]
        · rw [e0 y fun e => hnk x hx (e ▸ hy)]; exact hm.up x hx y hy
      · rw [updI_ne _ _ hxm] at hy
        rw [e0 y fun e => hnk x hx (e ▸ hy)]; exact hm.up x hx y hy
  unfold Ar.funder
  rw [hcell]
  by_cases h1 : s.f m 1 = -1
  · rw [if_pos h1]
    have hkm : k m = [] := by
      have := hm.kc m hmN
      rw [h1] at this
      cases hk : k m with
      | nil => rfl
      | cons y l => rw [hk] at this; exact absurd this.1.symm (hb.ne (hf.kid hmN (by rw [hk]; simp)))
    have ef : ∀ c j, ((s.clink n n).put m 1 n).f c j = if c = m ∧ j = 1 then n else (s.clink n n).f c j := fun c j => by
      rw [Ar.put_f, clink_has]
      simp only [hm1, true_and]
    refine key _ (s1.trans (Str.put _ _ hmN (by decide))) (fun x hx hxm => ?_) ?_ (fun x hx hxm y hy => ?_) (fun x => ?_) (fun x => ?_)
    · rw [ef, if_neg (fun e => by exact hxm e.1), ec, if_neg (fun e => by omega), if_neg (fun e => by omega)]
    · rw [hkm, ef, if_pos ⟨rfl, rfl⟩]
      refine ⟨rfl, ?_, ?_⟩
      · rw [ef, if_neg (fun e => by omega), ec, if_neg (fun e => by omega), if_pos ⟨rfl, rfl⟩]
      · rw [ef, if_neg (fun e => by omega), ec, if_pos ⟨rfl, rfl⟩]
    · have hyn : y ≠ n := fun e => hnk x hx (e ▸ hy)
      constructor
      · rw [ef, if_neg (fun e => by omega), ec, if_neg (fun e => by exact hyn e.1), if_neg (fun e => by omega)]
      · rw [ef, if_neg (fun e => by omega), ec, if_neg (fun e => by omega), if_neg (fun e => by exact hyn e.1)]
    · rw [ef, if_neg (fun e => by omega), ec, if_neg (fun e => by omega), if_neg (fun e => by omega)]
    · rw [ef, if_neg (fun e => by omega), ec, if_neg (fun e => by omega), if_neg (fun e => by omega)]
  · rw [if_neg h1]
    have hk := hm.kc m hmN
    obtain ⟨l, hkm⟩ : ∃ l, k m = s.f m 1 :: l := by
      cases hk' : k m with
      | nil => rw [hk'] at hk; exact absurd hk h1
      | cons y l => rw [hk'] at hk; exact ⟨l, by rw [hk.1]⟩
    rw [hkm] at hk
    have hkN : ∀ x ∈ s.f m 1 :: l, x ∈ N := fun x hx => hf.kid hmN (by rw [hkm]; exact hx)
    have hkn : ∀ x ∈ s.f m 1 :: l, x ≠ n := fun x hx e => hnk m hmN (by rw [hkm, ← e]; exact hx)
    have hp : Pth (s.clink n n) (s.f m 1) l (s.f m 1) := Pth.congr (fun x hx => by rw [ec, if_neg (fun e => by omega), if_neg (fun e => by exact hkn x hx e.1)]) (fun x hx => by rw [ec, if_neg (fun e => by exact hkn x (by simp [hx]) e.1), if_neg (fun e => by omega)]) (by rw [ec, if_neg (fun e => by exact hkn _ (by simp) e.1), if_neg (fun e => by omega)]) hk.2
    obtain ⟨g1, g2, g3, g4⟩ := cput_law (d := n) hp (by rw [← hkm]; exact hf.ndK hmN) (fun e => hkn n e rfl) (fun x hx => by rw [clink_has]; exact hb.has x (hkN x hx)) (by rw [clink_has]; exact hn1)
    refine key _ (s1.trans (g4 N hnN hkN)) (fun x hx hxm => ?_) ?_ (fun x hx hxm y hy => ?_) (fun x => ?_) (fun x => ?_)
    · rw [g3 _ _ (by decide) (by decide), ec, if_neg (fun e => by omega), if_neg (fun e => by omega)]
    · rw [g3 _ _ (by decide) (by decide), e1, hkm]
      exact ⟨rfl, g1⟩
    · have hyn : y ≠ n := fun e => hnk x hx (e ▸ hy)
      have hyl : y ∉ n :: s.f m 1 :: l := fun e => by
        rcases List.mem_cons.1 e with e | e
        · exact hyn e
        · exact hxm (hf.once hx hmN hy (by rw [hkm]; exact e))
      rw [g2 y hyl, g2 y hyl]
      constructor
      · rw [ec, if_neg (fun e => by exact hyn e.1), if_neg (fun e => by omega)]
      · rw [ec, if_neg (fun e => by omega), if_neg (fun e => by exact hyn e.1)]
    · rw [g3 _ _ (by decide) (by decide), ec, if_neg (fun e => by omega), if_neg (fun e => by omega)]
    · rw [g3 _ _ (by decide) (by decide), ec, if_neg (fun e => by omega), if_neg (fun e => by omega)]
end
structure FAll (s0 s : Ar) (R N : List Int) (k : Int → List Int) : Prop where
  str : Str s0 s N
  f : Forest s0.iv R N k
  b : Base s N
  m : FMem s N k
  rk : FRk s N k
  rt : FRt s R
theorem fstep_law {s0 s : Ar} {R Q N : List Int} {k : Int → List Int} {n m q : Int} (h : FAll s0 s R N k) (hR : R.Perm (m :: n :: Q)) (hlt : lt3 (s.iv m) (s.iv n)) (hq : s.f m 4 = q) : FAll s0 ((s.funder n m).put m 4 (q + 1)) (m :: Q) N (updI k m (fins (k m) n)) ∧ ((s.funder n m).put m 4 (q + 1)).f m 4 = q + 1 ∧ ∀ x, x ≠ m → ((s.funder n m).put m 4 (q + 1)).f x 4 = s.f x 4 := by
  have hmN := h.f.root (hR.mem_iff.2 (by simp) : m ∈ R)
  obtain ⟨g1, g2, g3, g4, g5⟩ := funder_law h.f h.b h.m hR
  have hm1 : (s.funder n m).has m = true := by rw [g1.has]; exact h.b.has m hmN
  have ef : ∀ c j, ((s.funder n m).put m 4 (q + 1)).f c j = if c = m ∧ j = 4 then q + 1 else (s.funder n m).f c j := fun c j => by
    rw [Ar.put_f]; simp only [hm1, true_and]
  have hs : Str s ((s.funder n m).put m 4 (q + 1)) N := g1.trans (Str.put _ _ hmN (by decide))
  have hf' := h.f.link hR (fins_perm (k m) n) (by rw [← h.str.ivf]; exact hlt)
  have hne : ∀ c j, j ≠ 4 → ((s.funder n m).put m 4 (q + 1)).f c j = (s.funder n m).f c j := fun c j hj => by rw [ef, if_neg (fun e => by exact hj e.2)]
  refine ⟨⟨h.str.trans hs, hf', hs.base h.b, g2.congr (fun x hx y => hf'.kid hx) (fun c _ => hne c 1 (by decide)) (fun _ _ c _ => ⟨hne c 2 (by decide), hne c 3 (by decide), hne c 0 (by decide)⟩), fun x hx => ?_, fun x hx => ?_⟩, ?_, fun x hx => ?_⟩
  · rw [ef]
    by_cases hxm : x = m
    · subst hxm
      rw [if_pos ⟨rfl, rfl⟩, updI_same, (fins_perm _ _).length_eq, ← hq, h.rk x hx]
      simp
    · rw [if_neg (fun e => by exact hxm e.1), updI_ne _ _ hxm, g5]
      exact h.rk x hx
  · rw [hne x 0 (by decide)]
    rcases List.mem_cons.1 hx with e | hx
    · rw [e, g4]; exact h.rt m (hR.mem_iff.2 (by simp))
    · rw [g3 x hx]; exact h.rt x (hR.mem_iff.2 (by simp [hx]))
  · rw [ef, if_pos ⟨rfl, rfl⟩]
  · rw [ef, if_neg (fun e => by exact hx e.1), g5]
theorem getD_perm {B : List (Int × Int)} {i : Nat} {x : Int × Int} (h : B[i]? = some x) : (B.map (·.1)).Perm (x.1 :: (B.eraseIdx i).map (·.1)) ∧ B.getD i (0, 0) = x ∧ (∀ y ∈ B.eraseIdx i, y ∈ B) ∧ x ∈ B := by
  obtain ⟨hi, hx⟩ := List.getElem?_eq_some_iff.1 h
  refine ⟨?_, by simp [List.getD, h], fun y hy => List.mem_of_mem_eraseIdx hy, List.mem_of_getElem? h⟩
  have h1 : B = B.take i ++ x :: B.drop (i + 1) := by rw [← hx]; simp
  rw [List.eraseIdx_eq_take_drop_succ]
  conv => lhs; rw [h1]
  simp only [List.map_append, List.map_cons]
  exact List.perm_middle
theorem fmerge_law {s0 : Ar} {N Q : List Int} : ∀ (f : Nat) (s : Ar) (B : List (Int × Int)) (n q : Int) (R : List Int) (k : Int → List Int), FAll s0 s R N k → R.Perm (B.map (·.1) ++ n :: Q) → (∀ y ∈ B, s.f y.1 4 = y.2) → s.f n 4 = q →
    ∃ R' k', FAll s0 (Ar.fmerge f s B n q).1 R' N k' ∧ R'.Perm ((Ar.fmerge f s B n q).2.map (·.1) ++ Q) ∧ (∀ y ∈ (Ar.fmerge f s B n q).2, (Ar.fmerge f s B n q).1.f y.1 4 = y.2) ∧ (∀ x ∈ Q, (Ar.fmerge f s B n q).1.f x 4 = s.f x 4) := by
  have hstop : ∀ (s : Ar) (B : List (Int × Int)) (n q : Int) (R : List Int) (k : Int → List Int), FAll s0 s R N k → R.Perm (B.map (·.1) ++ n :: Q) → (∀ y ∈ B, s.f y.1 4 = y.2) → s.f n 4 = q →
    ∃ R' k', FAll s0 s R' N k' ∧ R'.Perm ((B ++ [(n, q)]).map (·.1) ++ Q) ∧ (∀ y ∈ B ++ [(n, q)], s.f y.1 4 = y.2) ∧ (∀ x ∈ Q, s.f x 4 = s.f x 4) := by
    intro s B n q R k h hR hB hn
    refine ⟨R, k, h, by simpa using hR, fun y hy => ?_, fun _ _ => rfl⟩
    rcases List.mem_append.1 hy with hy | hy
    · exact hB y hy
    · simp only [List.mem_singleton] at hy; subst hy; exact hn
  intro f
  induction f with
  | zero => intro s B n q R k h hR hB hn; exact hstop s B n q R k h hR hB hn
  | succ f ih =>
    intro s B n q R k h hR hB hn
    cases hp : pidx q B with
    | none => rw [fmerge_none s n hp]; exact hstop s B n q R k h hR hB hn
    | some i =>
      obtain ⟨x, hx, hxq⟩ := pidx_lt hp
      obtain ⟨p1, p2, p3, p4⟩ := getD_perm hx
      have hR1 : R.Perm (x.1 :: n :: ((B.eraseIdx i).map (·.1) ++ Q)) := by
        refine hR.trans ((p1.append_right _).trans ?_)
        exact List.Perm.cons _ List.perm_middle
      have hnN := h.f.root (hR1.mem_iff.2 (by simp) : n ∈ R)
      have hxN := h.f.root (hR1.mem_iff.2 (by simp) : x.1 ∈ R)
      have hnd := hR1.nodup_iff.1 h.f.ndR
      rw [List.nodup_cons, List.nodup_cons] at hnd
      have hxn : x.1 ≠ n := fun e => hnd.1 (by simp [e])
      unfold Ar.fmerge
      simp only [hp, p2]
      cases hbf : s.nbefore n x.1 with
      | true =>
        rw [if_pos rfl]
        obtain ⟨g1, g2, g3⟩ := fstep_law h (hR1.trans (List.Perm.swap _ _ _)) ((h.b.before hnN hxN).1 hbf) hn
        have hne : ∀ y, y ∈ (B.eraseIdx i).map (·.1) ++ Q → y ≠ n := fun y hy e => hnd.2.1 (e ▸ hy)
        obtain ⟨R', k', j1, j2, j3, j4⟩ := ih _ (B.eraseIdx i) n (q + 1) _ _ g1 List.perm_middle.symm (fun y hy => by rw [g3 y.1 (hne _ (List.mem_append.2 (.inl (List.mem_map.2 ⟨y, hy, rfl⟩))))]; exact hB y (p3 y hy)) g2
        exact ⟨R', k', j1, j2, j3, fun y hy => by rw [j4 y hy, g3 y (hne y (List.mem_append.2 (.inr hy)))]⟩
      | false =>
        rw [if_neg (by decide)]
        obtain ⟨g1, g2, g3⟩ := fstep_law (q := q) h hR1 ((h.b.nbefore hnN hxN (Ne.symm hxn)).1 hbf) ((hB x p4).trans hxq)
        have hne : ∀ y, y ∈ (B.eraseIdx i).map (·.1) ++ Q → y ≠ x.1 := fun y hy e => hnd.1 (by rw [← e]; exact List.mem_cons_of_mem _ hy)
        obtain ⟨R', k', j1, j2, j3, j4⟩ := ih _ (B.eraseIdx i) x.1 (q + 1) _ _ g1 List.perm_middle.symm (fun y hy => by rw [g3 y.1 (hne _ (List.mem_append.2 (.inl (List.mem_map.2 ⟨y, hy, rfl⟩))))]; exact hB y (p3 y hy)) g2
        exact ⟨R', k', j1, j2, j3, fun y hy => by rw [j4 y hy, g3 y (hne y (List.mem_append.2 (.inr hy)))]⟩
theorem fcarry_law {s0 : Ar} {N : List Int} : ∀ (l : List Int) (s : Ar) (B : List (Int × Int)) (R : List Int) (k : Int → List Int), FAll s0 s R N k → R.Perm (B.map (·.1) ++ l) → (∀ y ∈ B, s.f y.1 4 = y.2) →
    ∃ R' k', FAll s0 (Ar.fcarry s B l).1 R' N k' ∧ R'.Perm ((Ar.fcarry s B l).2.map (·.1))
  | [], s, B, R, k, h, hR, hB => ⟨R, k, h, by simpa [Ar.fcarry] using hR⟩
  | n :: l, s, B, R, k, h, hR, hB => by
    have hnN := h.f.root (hR.mem_iff.2 (by simp) : n ∈ R)
    rw [Ar.fcarry, Ar.get_f (h.b.has n hnN)]
    obtain ⟨R1, k1, h1, h2, h3, _⟩ := fmerge_law B.length s B n (s.f n 4) R k h hR hB rfl
    exact fcarry_law l _ _ R1 k1 h1 h2 h3
end Go.Proofs.YtognmhgdegpdiaaGreat
end
section
/- Fibonacci heaps: Push, Pop, Meld. -/
namespace Go.Proofs.YtognmhgdegpdiaaGreat
set_option linter.unusedVariables false
set_option linter.unusedSimpArgs false
theorem FAll.links {s0 s s' : Ar} {R N : List Int} {k : Int → List Int} (h : FAll s0 s R N k) (hs : Str s s' N) (ho : ∀ c, c ∉ R → ∀ j, s'.f c j = s.f c j) (h4 : ∀ c j, j ≠ 2 → j ≠ 3 → s'.f c j = s.f c j) : FAll s0 s' R N k :=
  ⟨h.str.trans hs, h.f, hs.base h.b, h.m.congr (fun n hn m => h.f.kid hn) (fun c _ => h4 c 1 (by decide) (by decide)) (fun n hn c hc => by
    have hcR : c ∉ R := fun e => h.f.notkid e hn hc
    exact ⟨ho c hcR 2, ho c hcR 3, ho c hcR 0⟩), fun n hn => by rw [h4 n 4 (by decide) (by decide)]; exact h.rk n hn, fun n hn => by rw [h4 n 0 (by decide) (by decide)]; exact h.rt n hn⟩
def FHeap (s : Ar) (r : Int) (N : List Int) : Prop := ∃ k R, FAll s s R N k ∧ Rg s r R ∧ ∀ m ∈ R, m ≠ r → lt3 (s.iv r) (s.iv m)
theorem FAll.fresh {s0 s : Ar} {R N : List Int} {k : Int → List Int} (h : FAll s0 s R N k) : FAll s s R N k := ⟨Str.refl _ _, by rw [h.str.ivf]; exact h.f, h.b, h.m, h.rk, h.rt⟩
theorem FAll.permR {s0 s : Ar} {R R' N : List Int} {k : Int → List Int} (h : FAll s0 s R N k) (hR : R.Perm R') : FAll s0 s R' N k := ⟨h.str, h.f.permR hR, h.b, h.m, h.rk, fun n hn => h.rt n (hR.mem_iff.2 hn)⟩
theorem FHeap.none {s : Ar} : FHeap s (-1) [] := ⟨fun _ => [], [], ⟨Str.refl _ _, Forest.nil _ _, ⟨by simp, by simp, by simp, by simp⟩, ⟨by simp, by simp⟩, by simp [FRk], by simp [FRt]⟩, rfl, by simp⟩
theorem FHeap.least {s : Ar} {r : Int} {N : List Int} (h : FHeap s r N) (hr : r ≠ -1) : r ∈ N ∧ ∀ m ∈ N, m ≠ r → lt3 (s.iv r) (s.iv m) := by
  obtain ⟨k, R, hf, hg, hl⟩ := h
  have hrR : r ∈ R := hg.at_.resolve_left hr
  exact ⟨hf.f.root hrR, hf.f.least hrR hl⟩
theorem Forest.none {v : Int → V3i} {N : List Int} {k : Int → List Int} (hf : Forest v [] N k) : N = [] := by
  by_cases e : N = []
  · exact e
  · obtain ⟨x, hx, hl⟩ := list_least v N e
    rcases List.mem_append.1 (hf.perm.mem_iff.2 hx) with h1 | h1
    · cases h1
    · obtain ⟨p, hp, hk⟩ := List.mem_flatMap.1 h1
      have h2 := hf.ord p hp x hk
      rcases hl p hp with h3 | h3
      · rw [h3] at h2; exact absurd h2 (lt3_irrefl _)
      · exact absurd h2 (lt3_asymm h3)
theorem FHeap.empty {s : Ar} {N : List Int} (h : FHeap s (-1) N) : N = [] := by
  obtain ⟨k, R, hf, hg, _⟩ := h
  cases R with
  | nil => exact hf.f.none
  | cons x l => exact absurd hg.1.symm (hf.b.ne (hf.f.root (by simp)))
theorem FHeap.lesser {s0 s : Ar} {r q : Int} {R N : List Int} {k : Int → List Int} (h : FAll s0 s R N k) (hg : Rg s r R) (hr : r ∈ R) (hq : q ∈ R) (hne : r ≠ q) (hl : ∀ m ∈ R, (m = r ∨ lt3 (s.iv r) (s.iv m)) ∨ (m = q ∨ lt3 (s.iv q) (s.iv m))) : FHeap s (s.flesser r q) N := by
  have hrN := h.f.root hr
  have hqN := h.f.root hq
  unfold Ar.flesser
  cases hb : s.nbefore q r with
  | true =>
    rw [if_pos rfl]
    have hlt := (h.b.before hqN hrN).1 hb
    obtain ⟨a, b, hR⟩ := List.append_of_mem hq
    rw [hR] at hg
    have hp : R.Perm (q :: b ++ a) := by rw [hR]; exact List.perm_append_comm
    refine ⟨k, _, h.fresh.permR hp, hg.turn, fun m hm hmq => ?_⟩
    rcases hl m (hp.mem_iff.2 hm) with h1 | h1
    · rcases h1 with e | h1
      · rw [e]; exact hlt
      · exact lt3_trans hlt h1
    · exact h1.resolve_left hmq
  | false =>
    rw [if_neg (by decide)]
    have hlt := (h.b.nbefore hqN hrN (Ne.symm hne)).1 hb
    refine ⟨k, R, h.fresh, hg, fun m hm hmr => ?_⟩
    rcases hl m hm with h1 | h1
    · exact h1.resolve_left hmr
    · rcases h1 with e | h1
      · rw [e]; exact hlt
      · exact lt3_trans hlt h1
theorem flay_law {s0 : Ar} {N R : List Int} {k : Int → List Int} {f0 : Int} : ∀ (L : List Int) (s : Ar) (root : Int) (acc : List Int), FAll s0 s R N k → Pth s f0 acc f0 → R.Perm (f0 :: acc ++ L) → root ∈ f0 :: acc → (∀ m ∈ f0 :: acc, m ≠ root → lt3 (s.iv root) (s.iv m)) →
    FHeap (Ar.flay f0 1 s root L).1 (Ar.flay f0 1 s root L).2 N ∧ Str s0 (Ar.flay f0 1 s root L).1 N
  | [], s, root, acc, h, hp, hR, hroot, hl => by
    rw [List.append_nil] at hR
    have hg : Rg s f0 (f0 :: acc) := ⟨rfl, hp⟩
    obtain ⟨a, b, hs⟩ := List.append_of_mem hroot
    rw [hs] at hg
    have hp2 : (f0 :: acc).Perm (root :: b ++ a) := by rw [hs]; exact List.perm_append_comm
    exact ⟨⟨k, _, h.fresh.permR (hR.trans hp2), hg.turn, fun m hm hne => hl m (hp2.mem_iff.2 hm) hne⟩, h.str⟩
  | x :: L, s, root, acc, h, hp, hR, hroot, hl => by
    rw [Ar.flay]
    have hxR : x ∈ R := hR.mem_iff.2 (by simp)
    have haR : ∀ y ∈ f0 :: acc, y ∈ R := fun y hy => hR.mem_iff.2 (List.mem_append.2 (.inl hy))
    have hx := h.b.has x (h.f.root hxR)
    have hnd := hR.nodup_iff.1 h.f.ndR
    obtain ⟨n1, n2, n3⟩ := List.nodup_append.1 hnd
    have hxa : ∀ y ∈ f0 :: acc, y ≠ x := fun y hy => n3 y hy x (by simp)
    have ec := clink_f hx hx
    have hp1 : Pth (s.clink x x) f0 acc f0 := Pth.congr (fun y hy => by rw [ec, if_neg (fun e => by omega), if_neg (fun e => by exact hxa y hy e.1)]) (fun y hy => by rw [ec, if_neg (fun e => by exact hxa y (by simp [hy]) e.1), if_neg (fun e => by omega)]) (by rw [ec, if_neg (fun e => by exact hxa _ (by simp) e.1), if_neg (fun e => by omega)]) hp
    obtain ⟨g1, g2, g3, g4⟩ := cput_law (d := x) hp1 n1 (fun e => hxa x e rfl) (fun y hy => by rw [clink_has]; exact h.b.has y (h.f.root (haR y hy))) (by rw [clink_has]; exact hx)
    have hs : Str s ((s.clink x x).cput f0 x) N := (clink_str (h.f.root hxR) (h.f.root hxR)).trans (g4 N (h.f.root hxR) fun y hy => h.f.root (haR y hy))
    have h1 : FAll s0 ((s.clink x x).cput f0 x) R N k := h.links hs (fun c hc j => by
      have hcx : c ≠ x := fun e => hc (e ▸ hxR)
      rw [g2 c (fun e => by
        rcases List.mem_cons.1 e with e | e
        · exact hcx e
        · exact hc (haR c e)), ec, if_neg (fun e => by exact hcx e.1), if_neg (fun e => by exact hcx e.1)]) (fun c j h2 h3 => by rw [g3 c j h2 h3, ec, if_neg (fun e => by exact h2 e.2), if_neg (fun e => by exact h3 e.2)])
    have hR2 : R.Perm (f0 :: (x :: acc) ++ L) := hR.trans (List.Perm.cons _ List.perm_middle)
    have hrx : root ≠ x := hxa root hroot
    have hrN := h.f.root (haR root hroot)
    have hb := h1.b
    refine flay_law L _ _ (x :: acc) h1 g1 hR2 ?_ ?_
    · unfold Ar.flesser
      split
      · simp
      · rcases List.mem_cons.1 hroot with e | e <;> simp [e]
    · rw [hs.ivf]
      unfold Ar.flesser
      cases hbf : ((s.clink x x).cput f0 x).nbefore x root with
      | true =>
        have hlt := (hb.before (h.f.root hxR) hrN).1 hbf
        rw [hs.ivf] at hlt
        rw [if_pos rfl]
        intro m hm hne
        have hm' : m ∈ f0 :: acc := by
          rcases List.mem_cons.1 hm with e | e
          · simp [e]
          · rcases List.mem_cons.1 e with e | e
            · exact absurd e hne
            · simp [e]
        by_cases e : m = root
        · rw [e]; exact hlt
        · exact lt3_trans hlt (hl m hm' e)
      | false =>
        have hlt := (hb.nbefore (h.f.root hxR) hrN (Ne.symm hrx)).1 hbf
        rw [hs.ivf] at hlt
        rw [if_neg (by decide)]
        intro m hm hne
        rcases List.mem_cons.1 hm with e | e
        · exact hl m (by simp [e]) hne
        · rcases List.mem_cons.1 e with e | e
          · rw [e]; exact hlt
          · exact hl m (by simp [e]) hne
theorem funlike_law {s0 s : Ar} {l N : List Int} {k : Int → List Int} (h : FAll s0 s l N k) : FHeap (s.funlike l).1 (s.funlike l).2 N ∧ Str s0 (s.funlike l).1 N := by
  obtain ⟨R', k', h1, h2⟩ := fcarry_law l s [] l k h (by simp) (by simp)
  unfold Ar.funlike
  cases hL : (Ar.fcarry s [] l).2 with
  | nil =>
    rw [hL] at h2
    have hR : R' = [] := by simpa using h2
    subst hR
    have e : N = [] := h1.f.none
    subst e
    exact ⟨⟨k', [], h1.fresh, rfl, by simp⟩, h1.str⟩
  | cons y B =>
    rw [hL] at h2
    simp only [List.map_cons, List.headD_cons]
    rw [Ar.flay]
    have hyR : y.1 ∈ R' := h2.mem_iff.2 (by simp)
    have hy := h1.b.has _ (h1.f.root hyR)
    have ec := clink_f hy hy
    have hs := clink_str (s := (Ar.fcarry s [] l).1) (h1.f.root hyR) (h1.f.root hyR)
    refine flay_law _ _ y.1 [] (h1.links hs (fun c hc j => ?_) (fun c j h2 h3 => ?_)) ⟨?_, ?_⟩ (by simpa using h2) (by simp) (by simp)
    · have hcx : c ≠ y.1 := fun e => hc (e ▸ hyR)
      rw [ec, if_neg (fun e => by exact hcx e.1), if_neg (fun e => by exact hcx e.1)]
    · rw [ec, if_neg (fun e => by exact h2 e.2), if_neg (fun e => by exact h3 e.2)]
    · rw [ec, if_neg (fun e => by omega), if_pos ⟨rfl, rfl⟩]
    · rw [ec, if_pos ⟨rfl, rfl⟩]
section
variable {s : Ar} {r q i : Int} {N M : List Int}
theorem FHeap.push (hok : s.Ok) (ht : s.take.2.1 = true) (hi : s.has i = true) (hiN : i ∉ N) (hiI : ∀ m ∈ N, s.f m 6 ≠ i) (h : FHeap s r N) :
    FHeap (s.fpush r i).1 (s.fpush r i).2 (s.take.1 :: N) ∧ Str (s.newNode i) (s.fpush r i).1 (s.take.1 :: N) := by
  obtain ⟨k, R, h, hg, hl⟩ := h
  have hf := h.f
  obtain ⟨hb1, hnN, hiv, hx, hne, _, _, _⟩ := Base.newNode hok ht hi hiN hiI h.b
  have eo : ∀ c, c ≠ s.take.1 → ∀ j, j ≠ 9 → (s.newNode i).f c j = s.f c j := fun c hc j hj => by rw [Ar.newNode_f hok ht hi, if_neg (fun e => by exact hj e.2), if_neg (fun e => by exact hc e.1), if_neg hc]
  have en : ∀ j, j ≤ 5 → (s.newNode i).f s.take.1 j = freshF j := fun j hj => by rw [Ar.newNode_f hok ht hi, if_neg (fun e => by omega), if_neg (fun e => by omega), if_pos rfl]
  have hmn : ∀ m ∈ N, m ≠ s.take.1 := fun m hm e => hnN (e ▸ hm)
  have hmR : ∀ m ∈ R, m ≠ s.take.1 := fun m hm => hmn m (hf.root hm)
  generalize hx1 : s.newNode i = s1 at *
  generalize hx0 : s.take.1 = n at *
  have hf1 : Forest s1.iv (n :: R) (n :: N) (updI k n []) :=
    (hf.congr hiv fun _ _ => rfl).add hnN fun m hm e => hmn m hm (hb1.inj m (by simp [hm]) _ (by simp) e)
  have h1 : FAll s1 s1 (n :: R) (n :: N) (updI k n []) := by
    refine ⟨Str.refl _ _, hf1, hb1, ⟨fun z hz => ?_, fun z hz m hmk => ?_⟩, fun z hz => ?_, fun z hz => ?_⟩
    · rcases List.mem_cons.1 hz with e | hz
      · rw [e, updI_same, en 1 (by decide)]; rfl
      · rw [updI_ne _ _ (hmn z hz), eo z (hmn z hz) 1 (by decide)]
        exact Rg.congr (fun x hx => ⟨eo x (hmn x (hf.kid hz hx)) 2 (by decide), eo x (hmn x (hf.kid hz hx)) 3 (by decide)⟩) (h.m.kc z hz)
    · rcases List.mem_cons.1 hz with e | hz
      · rw [e, updI_same] at hmk; cases hmk
      · rw [updI_ne _ _ (hmn z hz)] at hmk
        rw [eo m (hmn m (hf.kid hz hmk)) 0 (by decide)]
        exact h.m.up z hz m hmk
    · rcases List.mem_cons.1 hz with e | hz
      · rw [e, updI_same, en 4 (by decide)]; rfl
      · rw [updI_ne _ _ (hmn z hz), eo z (hmn z hz) 4 (by decide)]; exact h.rk z hz
    · rcases List.mem_cons.1 hz with e | hz
      · rw [e, en 0 (by decide)]; rfl
      · rw [eo z (hmR z hz) 0 (by decide)]; exact h.rt z hz
  have hn1 : s1.has n = true := hb1.has n (by simp)
  have ec := clink_f hn1 hn1
  have hs := clink_str (s := s1) (c := n) (d := n) (N := n :: N) (by simp) (by simp)
  have h2 : FAll s1 (s1.clink n n) (n :: R) (n :: N) (updI k n []) := h1.links hs (fun c hc j => by
    have hcx : c ≠ n := fun e => hc (by simp [e])
    rw [ec, if_neg (fun e => by exact hcx e.1), if_neg (fun e => by exact hcx e.1)]) (fun c j h2 h3 => by rw [ec, if_neg (fun e => by exact h2 e.2), if_neg (fun e => by exact h3 e.2)])
  unfold Ar.fpush
  rw [hx1, hx0]
  by_cases hr0 : r = -1
  · rw [if_pos hr0]
    subst hr0
    have hR : R = [] := by
      cases R with
      | nil => rfl
      | cons x l => exact absurd hg.1.symm (h.b.ne (hf.root (by simp)))
    subst hR
    refine ⟨⟨_, [n], h2.fresh, ⟨rfl, ?_, ?_⟩, by simp⟩, h2.str⟩
    · rw [ec, if_neg (fun e => by omega), if_pos ⟨rfl, rfl⟩]
    · rw [ec, if_pos ⟨rfl, rfl⟩]
  · rw [if_neg hr0]
    obtain ⟨l, rfl⟩ : ∃ l, R = r :: l := by
      cases R with
      | nil => exact absurd hg hr0
      | cons x l => exact ⟨l, by rw [hg.1]⟩
    have e2 : ∀ x, x ≠ n → ∀ j, j ≠ 9 → (s1.clink n n).f x j = s.f x j := fun x hx j hj => by rw [ec, if_neg (fun e => by exact hx e.1), if_neg (fun e => by exact hx e.1), eo x hx j hj]
    have hp1 : Pth (s1.clink n n) r l r := Pth.congr (fun y hy => e2 y (hmR y hy) 3 (by decide)) (fun y hy => e2 y (hmR y (by simp [hy])) 2 (by decide)) (e2 r (hmR r (by simp)) 2 (by decide)) hg.2
    obtain ⟨g1, g2, g3, g4⟩ := cput_law (d := n) hp1 hf.ndR (fun e => hmR n e rfl) (fun y hy => by rw [clink_has]; exact hb1.has y (by simp [hf.root hy])) (by rw [clink_has]; exact hn1)
    have hs3 := g4 (n :: N) (by simp) (fun y hy => by simp [hf.root hy])
    have h3 := h2.links hs3 (fun c hc j => g2 c (fun e => hc e) j) g3
    have h4 := h3.permR (List.Perm.swap r n l)
    refine ⟨FHeap.lesser h4 ⟨rfl, g1⟩ (by simp) (by simp) (hmR r (by simp)) (fun m hm => ?_), h3.str⟩
    rw [h4.str.ivf]
    rcases List.mem_cons.1 hm with e | hm
    · exact .inl (.inl e)
    · rcases List.mem_cons.1 hm with e | hm
      · exact .inr (.inl e)
      · have hrl := List.nodup_cons.1 hf.ndR
        rw [hiv r (hf.root (by simp)), hiv m (hf.root (by simp [hm]))]
        exact .inl (.inr (hl m (by simp [hm]) fun e => hrl.1 (e ▸ hm)))
theorem ups_f {N : List Int} : ∀ (l : List Int) (s : Ar), (∀ x ∈ l, s.has x = true) → ∀ c j, (s.ups l).f c j = if c ∈ l ∧ j = 0 then -1 else s.f c j
  | [], s, _, c, j => by simp [Ar.ups]
  | x :: l, s, h, c, j => by
    have := ups_f (N := N) l (s.put x 0 (-1)) (fun y hy => by rw [Ar.put_has]; exact h y (by simp [hy])) c j
    unfold Ar.ups at this ⊢
    rw [List.foldl_cons, this, Ar.put_f, h x (by simp)]
    by_cases h1 : c ∈ l ∧ j = 0
    · rw [if_pos h1, if_pos ⟨by simp [h1.1], h1.2⟩]
    · rw [if_neg h1]
      by_cases h2 : c = x ∧ j = 0
      · rw [if_pos ⟨rfl, h2⟩, if_pos ⟨by simp [h2.1], h2.2⟩]
      · rw [if_neg (fun e => by exact h2 e.2), if_neg]
        rintro ⟨e1, e2⟩
        rcases List.mem_cons.1 e1 with e | e
        · exact h2 ⟨e, e2⟩
        · exact h1 ⟨e, e2⟩
theorem ups_str {N : List Int} : ∀ (l : List Int) (s : Ar), (∀ x ∈ l, x ∈ N) → Str s (s.ups l) N
  | [], s, _ => Str.refl _ _
  | x :: l, s, h => (Str.put s (k := 0) (-1) (h x (by simp)) (by decide)).trans (ups_str l _ fun y hy => h y (by simp [hy]))
theorem fpop_law {k : Int → List Int} {n : Int} {l : List Int} (h : FAll s s (n :: l) N k) (hg : Pth s n l n) (hN : N.Perm (n :: M)) :
    FHeap (s.fpop n).1 (s.fpop n).2.1 M ∧ Str (s.endNode n) (s.fpop n).1 N ∧ (s.fpop n).2.2 = s.f n 6 ∧ (s.frest n).length < N.length ∧ (s.fkids n).length ≤ (s.frest n).length ∧ (s.fpop n).1.f n 4 = s.f n 4 := by
  have hf := h.f
  have hnN : n ∈ N := hf.root (by simp)
  have hsM : ∀ x ∈ M, x ∈ N := fun x hx => hN.mem_iff.2 (by simp [hx])
  have hnM : n ∉ M := (List.nodup_cons.1 (hN.nodup_iff.1 hf.nd)).1
  have hlN : ∀ x ∈ n :: l, x ∈ N := fun x hx => hf.root hx
  have hkN : ∀ x ∈ k n, x ∈ N := fun x hx => hf.kid hnN hx
  have hkl : ∀ x ∈ k n, x ∉ n :: l := fun x hx e => hf.notkid e hnN hx
  have hkids : s.fkids n = k n := by
    have hk := h.m.kc n hnN
    unfold Ar.fkids
    rw [h.b.cell hnN (hk.at_.imp id (hf.kid hnN))]
    cases hkn : k n with
    | nil => rw [hkn] at hk; have hk' : s.f n 1 = -1 := hk; rw [if_pos hk']
    | cons y m =>
      rw [hkn] at hk
      rw [hk.1, if_neg (h.b.ne (hf.kid hnN (by rw [hkn]; simp)))]
      exact ring_law ⟨rfl, hk.2⟩ (by rw [← hkn]; exact hf.ndK hnN) fun x hx => h.b.has x (hf.kid hnN (by rw [hkn]; exact hx))
  -- the children have nobody above
  have s1 := ups_str (s := s) (N := N) (k n) hkN
  have e1 := ups_f (N := N) (k n) s (fun x hx => h.b.has x (hkN x hx))
  have hp1 : Pth (s.ups (k n)) n l n := Pth.congr (fun x _ => by rw [e1, if_neg (fun e => by omega)]) (fun x _ => by rw [e1, if_neg (fun e => by omega)]) (by rw [e1, if_neg (fun e => by omega)]) hg
  obtain ⟨g1, g2, g3, g4, g5⟩ := cout_law hp1 hf.ndR (fun x hx => by rw [s1.has]; exact h.b.has x (hlN x hx))
  have s2 := s1.trans (g5 N hlN)
  have hb2 := s2.base h.b
  have e2 : ∀ c, c ∉ k n → ∀ j, j ≠ 2 → j ≠ 3 → ((s.ups (k n)).cout n).2.f c j = s.f c j := fun c hc j h2 h3 => by rw [g3 c j h2 h3, e1, if_neg (fun e => by exact hc e.1)]
  have hfo : s.fout n = (s.ups (k n)).cout n := by unfold Ar.fout; rw [hkids]
  have hrest : s.frest n = k n ++ l := by
    unfold Ar.frest
    rw [hfo, hkids]
    cases l with
    | nil => have g1' : ((s.ups (k n)).cout n).1 = -1 := g1; rw [if_pos g1', List.append_nil]
    | cons y l =>
      have hy : ((s.ups (k n)).cout n).1 = y := g1.1
      rw [hy, if_neg (h.b.ne (hlN y (by simp)))]
      rw [ring_law ⟨rfl, g1.2⟩ (List.nodup_cons.1 hf.ndR).2 fun x hx => hb2.has x (hlN x (by simp at hx ⊢; exact .inr hx))]
  have s3 := s2.endNode h.b hnN
  have hb3 := hb2.endNode hf.nd hN
  have e3 : ∀ c j, j ≤ 5 → (((s.ups (k n)).cout n).2.endNode n).f c j = ((s.ups (k n)).cout n).2.f c j := fun c j hj => by rw [Ar.endNode_f hb2 hnN, if_neg (fun e => by omega)]
  have h3 : FAll (((s.ups (k n)).cout n).2.endNode n) (((s.ups (k n)).cout n).2.endNode n) (k n ++ l) M k := by
    refine ⟨Str.refl _ _, (hf.drop (List.Perm.refl _) hN).congr (fun x _ => by rw [Ar.endNode_iv hb2 hnN, s2.iv]) fun _ _ => rfl, hb3, ⟨fun x hx => ?_, fun x hx y hy => ?_⟩, fun x hx => ?_, fun x hx => ?_⟩
    · have hxn : x ≠ n := fun e => hnM (e ▸ hx)
      rw [e3 x 1 (by decide), g3 x 1 (by decide) (by decide), e1, if_neg (fun e => by omega)]
      refine Rg.congr (fun y hy => ?_) (h.m.kc x (hsM x hx))
      have hyl : y ∉ n :: l := fun e => hf.notkid e (hsM x hx) hy
      rw [e3 y 2 (by decide), e3 y 3 (by decide), g4 y hyl, g4 y hyl, e1, e1, if_neg (fun e => by omega), if_neg (fun e => by omega)]
      exact ⟨rfl, rfl⟩
    · have hxn : x ≠ n := fun e => hnM (e ▸ hx)
      rw [e3 y 0 (by decide), e2 y (fun e => hxn (hf.once (hsM x hx) hnN hy e)) 0 (by decide) (by decide)]
      exact h.m.up x (hsM x hx) y hy
    · rw [e3 x 4 (by decide), g3 x 4 (by decide) (by decide), e1, if_neg (fun e => by omega)]
      exact h.rk x (hsM x hx)
    · rw [e3 x 0 (by decide), g3 x 0 (by decide) (by decide), e1]
      rcases List.mem_append.1 hx with hx | hx
      · rw [if_pos ⟨hx, rfl⟩]
      · split
        · rfl
        · exact h.rt x (by simp [hx])
  obtain ⟨j1, j2⟩ := funlike_law h3
  unfold Ar.fpop
  rw [hfo, hrest]
  refine ⟨j1, s3.trans (j2.mono hsM), ?_, ?_, by rw [hkids]; simp, ?_⟩
  · rw [hb2.cell6 hnN, s2.hi n 6 (by decide)]
  · have hd : (n :: (k n ++ l)).Nodup := by
      have h1 := hf.ndR
      rw [List.nodup_cons] at h1 ⊢
      refine ⟨fun e => ?_, List.nodup_append.2 ⟨hf.ndK hnN, h1.2, fun a ha b hb e => hkl a ha (by simp [e, hb])⟩⟩
      rcases List.mem_append.1 e with e | e
      · exact hf.self hnN e
      · exact h1.1 e
    have := nodup_sub _ N hd fun x hx => by
      rcases List.mem_cons.1 hx with e | hx
      · rw [e]; exact hnN
      · rcases List.mem_append.1 hx with hx | hx
        · exact hkN x hx
        · exact hlN x (by simp [hx])
    simp only [List.length_cons] at this
    omega
  · rw [j2.out n hnM, e3 n 4 (by decide), g3 n 4 (by decide) (by decide), e1, if_neg (fun e => by omega)]
theorem FHeap.pop (hr : r ≠ -1) (hN : N.Perm (r :: M)) (h : FHeap s r N) :
    FHeap (s.fpop r).1 (s.fpop r).2.1 M ∧ Str (s.endNode r) (s.fpop r).1 N ∧ (s.fpop r).2.2 = s.f r 6 ∧ (s.frest r).length < N.length ∧ (s.fkids r).length ≤ (s.frest r).length ∧ (s.fpop r).1.f r 4 = s.f r 4 := by
  obtain ⟨k, R, h, hg, hl⟩ := h
  obtain ⟨l, rfl⟩ : ∃ l, R = r :: l := by
    cases R with
    | nil => exact absurd hg hr
    | cons x l => exact ⟨l, by rw [hg.1]⟩
  exact fpop_law h hg.2 hN
end
end Go.Proofs.YtognmhgdegpdiaaGreat
end
section
/- Two heaps that are melded: pairing, Fibonacci. -/
namespace Go.Proofs.YtognmhgdegpdiaaGreat
set_option linter.unusedVariables false
set_option linter.unusedSimpArgs false
theorem Base.app {s : Ar} {N M : List Int} (h : Base s N) (h' : Base s M) (hx : ∀ n ∈ N, ∀ m ∈ M, s.f m 6 ≠ n ∧ s.f n 6 ≠ m) : Base s (N ++ M) :=
  ⟨fun n hn => (List.mem_append.1 hn).elim (h.has n) (h'.has n), fun n hn => (List.mem_append.1 hn).elim (h.it n) (h'.it n), fun n hn => (List.mem_append.1 hn).elim (h.bk n) (h'.bk n), fun n hn m hm =>
    (List.mem_append.1 hn).elim (fun hn => (List.mem_append.1 hm).elim (h.di n hn m) (fun hm => (hx n hn m hm).1)) (fun hn => (List.mem_append.1 hm).elim (fun hm => (hx m hm n hn).2) (h'.di n hn m))⟩
def kk (N : List Int) (k k' : Int → List Int) : Int → List Int := fun x => if x ∈ N then k x else k' x
theorem kk_l {N : List Int} {k k' : Int → List Int} {x : Int} (h : x ∈ N) : kk N k k' x = k x := if_pos h
theorem kk_r {N : List Int} {k k' : Int → List Int} {x : Int} (h : x ∉ N) : kk N k k' x = k' x := if_neg h
section
variable {s : Ar} {r q : Int} {N M R R' : List Int} {k k' : Int → List Int}
theorem Forest.app (hf : Forest s.iv R N k) (hf' : Forest s.iv R' M k') (hb : Base s (N ++ M)) (hd : ∀ x ∈ N, x ∉ M) : Forest s.iv (R ++ R') (N ++ M) (kk N k k') :=
  hf.both hf' hd fun x hx y hy e => hd x hx (by rw [hb.inj x (by simp [hx]) y (by simp [hy]) e]; exact hy)
theorem FAll.app (h : FAll s s R N k) (h' : FAll s s R' M k') (hd : ∀ x ∈ N, x ∉ M) (hx : ∀ n ∈ N, ∀ m ∈ M, s.f m 6 ≠ n ∧ s.f n 6 ≠ m) : FAll s s (R ++ R') (N ++ M) (kk N k k') := by
  have hb := h.b.app h'.b hx
  have hr : ∀ x ∈ M, x ∉ N := fun x hx e => hd x e hx
  refine ⟨Str.refl _ _, h.f.app h'.f hb hd, hb, ⟨fun n hn => ?_, fun n hn m hm => ?_⟩, fun n hn => ?_, fun n hn => (List.mem_append.1 hn).elim (h.rt n) (h'.rt n)⟩
  · rcases List.mem_append.1 hn with hn | hn
    · rw [kk_l hn]; exact h.m.kc n hn
    · rw [kk_r (hr n hn)]; exact h'.m.kc n hn
  · rcases List.mem_append.1 hn with hn | hn
    · rw [kk_l hn] at hm; exact h.m.up n hn m hm
    · rw [kk_r (hr n hn)] at hm; exact h'.m.up n hn m hm
  · rcases List.mem_append.1 hn with hn | hn
    · rw [kk_l hn]; exact h.rk n hn
    · rw [kk_r (hr n hn)]; exact h'.rk n hn
theorem FHeap.meld (hd : ∀ x ∈ N, x ∉ M) (hx : ∀ n ∈ N, ∀ m ∈ M, s.f m 6 ≠ n ∧ s.f n 6 ≠ m) (h : FHeap s r N) (h' : FHeap s q M) : FHeap (s.fmeld r q).1 (s.fmeld r q).2 (N ++ M) ∧ Str s (s.fmeld r q).1 (N ++ M) := by
  unfold Ar.fmeld
  by_cases hr : r = -1
  · rw [if_pos hr]
    subst hr
    rw [h.empty]
    exact ⟨h', Str.refl _ _⟩
  · rw [if_neg hr]
    have hrN := (h.least hr).1
    by_cases hq : q = -1
    · rw [if_pos (.inl hq)]
      subst hq
      rw [h'.empty, List.append_nil]
      exact ⟨h, Str.refl _ _⟩
    · have hqM := (h'.least hq).1
      have hne : r ≠ q := fun e => hd r hrN (e ▸ hqM)
      rw [if_neg (fun e => by exact e.elim hq hne)]
      obtain ⟨k, R, h, hg, hl⟩ := h
      obtain ⟨k', R', h', hg', hl'⟩ := h'
      obtain ⟨l, rfl⟩ : ∃ l, R = r :: l := by
        cases R with
        | nil => exact absurd hg hr
        | cons x l => exact ⟨l, by rw [hg.1]⟩
      obtain ⟨m, rfl⟩ : ∃ l, R' = q :: l := by
        cases R' with
        | nil => exact absurd hg' hq
        | cons x l => exact ⟨l, by rw [hg'.1]⟩
      have ha := h.app h' hd hx
      obtain ⟨g1, g2, g3, g4⟩ := cjoin_law hg.2 hg'.2 ha.f.ndR (fun x hx => h.b.has x (h.f.root hx)) (fun x hx => h'.b.has x (h'.f.root hx))
      have hs := g4 (N ++ M) (fun x hx => by simp [h.f.root hx]) (fun x hx => by simp [h'.f.root hx])
      have h1 := ha.links hs (fun c hc j => g3 c (fun e => hc (List.mem_append.2 (.inl e))) (fun e => hc (List.mem_append.2 (.inr e))) j) g2
      have hp : (r :: l ++ q :: m).Perm (r :: (q :: m ++ l)) := List.Perm.cons _ List.perm_append_comm
      refine ⟨FHeap.lesser (h1.permR hp) ⟨rfl, g1⟩ (by simp) (by simp) hne (fun z hz => ?_), hs⟩
      rw [hs.ivf]
      rcases List.mem_append.1 (hp.mem_iff.2 hz) with e | e
      · by_cases hzr : z = r
        · exact .inl (.inl hzr)
        · exact .inl (.inr (hl z e hzr))
      · by_cases hzq : z = q
        · exact .inr (.inl hzq)
        · exact .inr (.inr (hl' z e hzq))
theorem PHeap.meld (hd : ∀ x ∈ N, x ∉ M) (hx : ∀ n ∈ N, ∀ m ∈ M, s.f m 6 ≠ n ∧ s.f n 6 ≠ m) (h : PHeap s r N) (h' : PHeap s q M) : PHeap (s.plink r q).1 (s.plink r q).2 (N ++ M) ∧ Str s (s.plink r q).1 (N ++ M) := by
  by_cases hr : r = -1
  · unfold Ar.plink
    rw [if_pos hr]
    subst hr
    rw [h.empty]
    exact ⟨h', Str.refl _ _⟩
  · by_cases hq : q = -1
    · unfold Ar.plink
      rw [if_neg hr, if_pos (.inl hq)]
      subst hq
      rw [h'.empty, List.append_nil]
      exact ⟨h, Str.refl _ _⟩
    · obtain ⟨k, hf, hb, hm, ht⟩ := h
      obtain ⟨k', hf', hb', hm', ht'⟩ := h'
      have hrr : ∀ x ∈ M, x ∉ N := fun x hx e => hd x e hx
      rw [rl_some hr] at hf ht
      rw [rl_some hq] at hf' ht'
      have hbb := hb.app hb' hx
      have hff := hf.app hf' hbb hd
      have hmm : PMem s (N ++ M) (kk N k k') := ⟨fun n hn => by
        rcases List.mem_append.1 hn with hn | hn
        · rw [kk_l hn]; exact hm.kc n hn
        · rw [kk_r (hrr n hn)]; exact hm'.kc n hn, fun n hn m hm2 => by
        rcases List.mem_append.1 hn with hn | hn
        · rw [kk_l hn] at hm2; exact hm.up n hn m hm2
        · rw [kk_r (hrr n hn)] at hm2; exact hm'.up n hn m hm2⟩
      obtain ⟨k2, g1, g2, g3, g4, g5⟩ := plink_law (Q := []) hff hbb hmm (fun n hn => (List.mem_append.1 hn).elim (ht n) (ht' n)) (List.Perm.refl _)
      exact ⟨⟨k2, by rw [g1.ivf, rl_some (hbb.ne g5)]; exact g2, g1.base hbb, g3, by rw [rl_some (hbb.ne g5)]; exact g4⟩, g1⟩
end
end Go.Proofs.YtognmhgdegpdiaaGreat
end
section
/- Leftist heaps are forests. -/
namespace Go.Proofs.YtognmhgdegpdiaaGreat
set_option linter.unusedVariables false
set_option linter.unusedSimpArgs false
structure LMem (s : Ar) (N : List Int) (k : Int → List Int) (P : List Int) : Prop where
  cl : ∀ n ∈ N, n ∉ P → k n = rl (s.f n 2) ++ rl (s.f n 3) ∧ s.lrank (s.f n 3) ≤ s.lrank (s.f n 2) ∧ s.f n 4 = s.lrank (s.f n 3) + 1 ∧ 1 ≤ s.f n 4
  op : ∀ n ∈ N, n ∈ P → k n = rl (s.f n 2)
  up : ∀ n ∈ N, ∀ m ∈ k n, s.f m 0 = n
theorem mem_rl {x y : Int} : x ∈ rl y ↔ x = y ∧ y ≠ -1 := by unfold rl; split <;> simp [*]
theorem lrank_f {s : Ar} {N : List Int} (hb : Base s N) {c : Int} (h : c ∈ N) : s.lrank c = s.f c 4 := by
  unfold Ar.lrank
  rw [if_neg (hb.ne h), Ar.get_f (hb.has c h)]
theorem lrank_m1 (s : Ar) : s.lrank (-1) = 0 := rfl
theorem lrank_eq {s s' : Ar} {c : Int} (h1 : s'.has c = s.has c) (h2 : s'.f c 4 = s.f c 4) : s'.lrank c = s.lrank c := by unfold Ar.lrank Ar.get; rw [h1, h2]
section
variable {s : Ar} {v : Int → V3i} {R Q N P : List Int} {k : Int → List Int} {x t n m : Int}
theorem LMem.left (h : LMem s N k P) (hn : n ∈ N) (hl : s.f n 2 ≠ -1) : s.f n 2 ∈ k n := by
  by_cases hp : n ∈ P
  · rw [h.op n hn hp]; exact mem_rl.2 ⟨rfl, hl⟩
  · rw [(h.cl n hn hp).1]; exact List.mem_append.2 (.inl (mem_rl.2 ⟨rfl, hl⟩))
theorem LMem.right (h : LMem s N k P) (hn : n ∈ N) (hp : n ∉ P) (hl : s.f n 3 ≠ -1) : s.f n 3 ∈ k n := by
  rw [(h.cl n hn hp).1]; exact List.mem_append.2 (.inr (mem_rl.2 ⟨rfl, hl⟩))
theorem LMem.congr {s' : Ar} (h : LMem s N k P) (hf : Forest v R N k) (hs : ∀ c ∈ N, s'.has c = s.has c) (hc : ∀ c ∈ N, s'.f c 2 = s.f c 2 ∧ s'.f c 3 = s.f c 3 ∧ s'.f c 4 = s.f c 4) (hu : ∀ n ∈ N, ∀ m ∈ k n, s'.f m 0 = s.f m 0) : LMem s' N k P := by
  have hr : ∀ c, c = -1 ∨ c ∈ N → s'.lrank c = s.lrank c := fun c h => by
    rcases h with h | h
    · rw [h]; rfl
    · exact lrank_eq (hs c h) (hc c h).2.2
  refine ⟨fun n hn hp => ?_, fun n hn hp => ?_, fun n hn m hm => ?_⟩
  · obtain ⟨h2, h3, h4⟩ := hc n hn
    have e2 : s.f n 2 = -1 ∨ s.f n 2 ∈ N := by
      by_cases e : s.f n 2 = -1
      · exact .inl e
      · exact .inr (hf.kid hn (h.left hn e))
    have e3 : s.f n 3 = -1 ∨ s.f n 3 ∈ N := by
      by_cases e : s.f n 3 = -1
      · exact .inl e
      · exact .inr (hf.kid hn (h.right hn hp e))
    rw [h2, h3, h4, hr _ e2, hr _ e3]
    exact h.cl n hn hp
  · rw [(hc n hn).1]; exact h.op n hn hp
  · rw [hu n hn m hm]; exact h.up n hn m hm
theorem lclose_law (hf : Forest s.iv R N k) (hb : Base s N) (hm : LMem s N k (x :: P)) (hxP : x ∉ P) (hR : R.Perm (x :: t :: Q)) (hPR : ∀ p ∈ P, p ∈ R) (htP : t ∉ P) (hlt : lt3 (s.iv x) (s.iv t)) :
    ∃ k', Str s (((s.put x 3 t).put t 0 x).lfix x).2 N ∧ Forest s.iv (x :: Q) N k' ∧ LMem (((s.put x 3 t).put t 0 x).lfix x).2 N k' P ∧ ∀ y, y ≠ t → (((s.put x 3 t).put t 0 x).lfix x).2.f y 0 = s.f y 0 := by
  have hxR : x ∈ R := hR.mem_iff.2 (by simp)
  have htR : t ∈ R := hR.mem_iff.2 (by simp)
  have hxN := hf.root hxR
  have htN := hf.root htR
  have hnd := hR.nodup_iff.1 hf.ndR
  have hxt : x ≠ t := by rw [List.nodup_cons] at hnd; exact fun e => hnd.1 (by simp [e])
  have hx1 := hb.has x hxN
  have ht1 := hb.has t htN
  have hkx : k x = rl (s.f x 2) := hm.op x hxN (by simp)
  have hl : s.f x 2 = -1 ∨ s.f x 2 ∈ N := by
    by_cases e : s.f x 2 = -1
    · exact .inl e
    · exact .inr (hf.kid hxN (hm.left hxN e))
  have hlx : s.f x 2 ≠ x := fun e => by
    by_cases h1 : s.f x 2 = -1
    · exact hb.ne hxN (by rw [← e]; exact h1)
    · exact hf.self hxN (by have := hm.left hxN h1; rwa [e] at this)
  have e2 : ∀ c j, ((s.put x 3 t).put t 0 x).f c j = if c = t ∧ j = 0 then x else if c = x ∧ j = 3 then t else s.f c j := fun c j => by
    simp only [Ar.put_f, Ar.put_has, hx1, ht1, true_and]
  have s2 : Str s ((s.put x 3 t).put t 0 x) N := (Str.put s _ hxN (by decide)).trans (Str.put _ _ htN (by decide))
  generalize ((s.put x 3 t).put t 0 x) = s1 at *
  have hb2 := s2.base hb
  have f2 : s1.f x 2 = s.f x 2 := by rw [e2, if_neg (fun e => by omega), if_neg (fun e => by omega)]
  have f3 : s1.f x 3 = t := by rw [e2, if_neg (fun e => by omega), if_pos ⟨rfl, rfl⟩]
  have c2 : s1.cell x 2 = s.f x 2 := by rw [hb2.cell hxN (by rw [f2]; exact hl), f2]
  have c3 : s1.cell x 3 = t := by rw [hb2.cell hxN (by rw [f3]; exact .inr htN), f3]
  have hlr : ∀ c, s1.lrank c = s.lrank c := fun c => lrank_eq (s2.has c) (by rw [e2, if_neg (fun e => by omega), if_neg (fun e => by omega)])
  have htc := hm.cl t htN (fun e => by rcases List.mem_cons.1 e with e | e; exact hxt e.symm; exact htP e)
  have htr : s.lrank t = s.f t 4 := lrank_f hb htN
  have hl0 : 0 ≤ s.lrank (s.f x 2) := by
    rcases hl with e | e
    · rw [e]; exact Int.le_refl 0
    · rw [lrank_f hb e]
      by_cases h1 : s.f x 2 = -1
      · exact absurd h1 (hb.ne e)
      · have := (hm.cl _ e (fun h => by
          rcases List.mem_cons.1 h with h | h
          · exact hlx h
          · exact hf.notkid (hPR _ h) hxN (hm.left hxN h1))).2.2.2
        omega
  unfold Ar.lfix
  rw [c2, c3, hlr, hlr]
  -- what is to be shown of the cells as they are then
  have key : ∀ s' : Ar, ∀ a b : Int, Str s1 s' N → (∀ c j, s'.f c j = if c = x ∧ j = 2 then a else if c = x ∧ j = 3 then b else if c = x ∧ j = 4 then s.lrank b + 1 else s1.f c j) → (rl a ++ rl b).Perm (t :: k x) → s.lrank b ≤ s.lrank a → 0 ≤ s.lrank b → a ≠ x → b ≠ x →
      ∃ k', Str s s' N ∧ Forest s.iv (x :: Q) N k' ∧ LMem s' N k' P ∧ ∀ y, y ≠ t → s'.f y 0 = s.f y 0 := by
    intro s' a b hs' ef hp hle h0 hax hbx
    have hs := s2.trans hs'
    have hf' := hf.link hR hp hlt
    have g0 : ∀ y, y ≠ t → s'.f y 0 = s.f y 0 := fun y hy => by rw [ef, if_neg (fun e => by omega), if_neg (fun e => by omega), if_neg (fun e => by omega), e2, if_neg (fun e => by exact hy e.1), if_neg (fun e => by omega)]
    have eo : ∀ y, y ≠ x → ∀ j, j ≠ 0 → s'.f y j = s.f y j := fun y hy j hj => by rw [ef, if_neg (fun e => by exact hy e.1), if_neg (fun e => by exact hy e.1), if_neg (fun e => by exact hy e.1), e2, if_neg (fun e => by exact hj e.2), if_neg (fun e => by exact hy e.1)]
    have er : ∀ y, y ≠ x → s'.lrank y = s.lrank y := fun y hy => lrank_eq (hs.has y) (eo y hy 4 (by decide))
    refine ⟨_, hs, hf', ⟨fun n hn hnP => ?_, fun n hn hnP => ?_, fun n hn m hm2 => ?_⟩, g0⟩
    · by_cases hnx : n = x
      · subst hnx
        have g2 : s'.f n 2 = a := by rw [ef, if_pos ⟨rfl, rfl⟩]
        have g3 : s'.f n 3 = b := by rw [ef, if_neg (fun e => by omega), if_pos ⟨rfl, rfl⟩]
        have g4 : s'.f n 4 = s.lrank b + 1 := by rw [ef, if_neg (fun e => by omega), if_neg (fun e => by omega), if_pos ⟨rfl, rfl⟩]
        rw [g2, g3, g4, updI_same, er b hbx, er a hax]
        exact ⟨rfl, hle, rfl, by omega⟩
      · have hnP' : n ∉ x :: P := fun e => by rcases List.mem_cons.1 e with e | e; exact hnx e; exact hnP e
        have h1 := hm.cl n hn hnP'
        have h2 : s.f n 2 ≠ x := fun e => by
          by_cases h : s.f n 2 = -1
          · exact hb.ne hxN (e ▸ h)
          · exact hf.notkid hxR hn (e ▸ hm.left hn h)
        have h3 : s.f n 3 ≠ x := fun e => by
          by_cases h : s.f n 3 = -1
          · exact hb.ne hxN (e ▸ h)
          · exact hf.notkid hxR hn (e ▸ hm.right hn hnP' h)
        rw [updI_ne _ _ hnx, eo n hnx 2 (by decide), eo n hnx 3 (by decide), eo n hnx 4 (by decide), er _ h2, er _ h3]
        exact h1
    · have hnx : n ≠ x := fun e => hxP (e ▸ hnP)
      rw [updI_ne _ _ hnx, eo n hnx 2 (by decide)]
      exact hm.op n hn (by simp [hnP])
    · by_cases hnx : n = x
      · subst hnx
        rw [updI_same] at hm2
        rcases List.mem_cons.1 (hp.mem_iff.1 hm2) with e | e
        · rw [e, ef, if_neg (fun e => by omega), if_neg (fun e => by omega), if_neg (fun e => by omega), e2, if_pos ⟨rfl, rfl⟩]
        · rw [g0 m fun e2 => hf.notkid htR hn (e2 ▸ e)]; exact hm.up n hn m e
      · rw [updI_ne _ _ hnx] at hm2
        rw [g0 m fun e2 => hf.notkid htR hn (e2 ▸ hm2)]; exact hm.up n hn m hm2
  have hx2 : s1.has x = true := by rw [s2.has]; exact hx1
  by_cases hlow : s.lrank (s.f x 2) < s.lrank t
  · rw [if_pos hlow]
    refine key _ t (s.f x 2) (((Str.put s1 _ hxN (by decide)).trans (Str.put _ _ hxN (by decide))).trans (Str.put _ _ hxN (by decide))) (fun c j => ?_) ?_ (by omega) hl0 (Ne.symm hxt) hlx
    · simp only [Ar.put_f, Ar.put_has, hx2, true_and]
      by_cases h1 : c = x
      · by_cases h2 : j = 2
        · simp [h1, h2]
        · by_cases h3 : j = 3
          · simp [h1, h3]
          · simp [h1, h2, h3]
      · simp [h1]
    · rw [hkx, rl_some (hb.ne htN)]; exact List.Perm.refl _
  · rw [if_neg hlow]
    refine key _ (s.f x 2) t (Str.put s1 _ hxN (by decide)) (fun c j => ?_) ?_ (by omega) (by rw [htr]; omega) hlx (Ne.symm hxt)
    · simp only [Ar.put_f, hx2, true_and]
      by_cases h1 : c = x
      · by_cases h2 : j = 2
        · rw [if_neg (fun e => by omega), if_pos ⟨h1, h2⟩, h1, h2, f2]
        · by_cases h3 : j = 3
          · rw [if_neg (fun e => by omega), if_neg (fun e => by omega), if_pos ⟨h1, h3⟩, h1, h3, f3]
          · rw [if_neg (c := c = x ∧ j = 2) (fun e => by exact h2 e.2), if_neg (c := c = x ∧ j = 3) (fun e => by exact h3 e.2)]
      · simp [h1]
    · rw [hkx, rl_some (hb.ne htN)]; exact List.perm_append_singleton _ _
end
theorem lback_snoc (x : Int) : ∀ (l : List Int) (s : Ar) (top : Int), s.lback (l ++ [x]) top = (((((s.lback l top).1.put x 3 (s.lback l top).2).put (s.lback l top).2 0 x).lfix x).2, x)
  | [], s, top => rfl
  | y :: l, s, top => by
    show Ar.lback _ (l ++ [x]) y = _
    rw [lback_snoc x l]
    rfl
theorem lrank_pos {s : Ar} {N P : List Int} {k : Int → List Int} {n : Int} (hb : Base s N) (hm : LMem s N k P) (hn : n ∈ N) (hp : n ∉ P) : 1 ≤ s.lrank n := by rw [lrank_f hb hn]; exact (hm.cl n hn hp).2.2.2
theorem lpath_law {s : Ar} {N : List Int} (hb : Base s N) : ∀ (f : Nat) (R : List Int) (k : Int → List Int) (P : List Int) (r q : Int), Forest s.iv R N k → LMem s N k P → R.Perm (P ++ (rl r ++ rl q)) → s.lrank r + s.lrank q ≤ f →
    ((s.lpath f r q).1.length : Int) ≤ s.lrank r + s.lrank q ∧ ∃ k', Str s (s.lback (s.lpath f r q).1.reverse (max (s.lpath f r q).2.1 (s.lpath f r q).2.2)).1 N ∧
      Forest s.iv (P ++ rl (s.lback (s.lpath f r q).1.reverse (max (s.lpath f r q).2.1 (s.lpath f r q).2.2)).2) N k' ∧
      LMem (s.lback (s.lpath f r q).1.reverse (max (s.lpath f r q).2.1 (s.lpath f r q).2.2)).1 N k' P ∧
      (r = -1 → q = -1 → (s.lback (s.lpath f r q).1.reverse (max (s.lpath f r q).2.1 (s.lpath f r q).2.2)).2 = -1) ∧
      (r ≠ -1 ∨ q ≠ -1 → (s.lback (s.lpath f r q).1.reverse (max (s.lpath f r q).2.1 (s.lpath f r q).2.2)).2 ≠ -1 ∧ ((s.lback (s.lpath f r q).1.reverse (max (s.lpath f r q).2.1 (s.lpath f r q).2.2)).2 = r ∨ (s.lback (s.lpath f r q).1.reverse (max (s.lpath f r q).2.1 (s.lpath f r q).2.2)).2 = q)) := by
  -- one of both is none
  have hend : ∀ (R : List Int) (k : Int → List Int) (P : List Int) (r q : Int), Forest s.iv R N k → LMem s N k P → R.Perm (P ++ (rl r ++ rl q)) → r = -1 ∨ q = -1 →
      (([] : List Int).length : Int) ≤ s.lrank r + s.lrank q ∧ ∃ k', Str s (s.lback [] (max r q)).1 N ∧ Forest s.iv (P ++ rl (s.lback [] (max r q)).2) N k' ∧ LMem (s.lback [] (max r q)).1 N k' P ∧ (r = -1 → q = -1 → (s.lback [] (max r q)).2 = -1) ∧ (r ≠ -1 ∨ q ≠ -1 → (s.lback [] (max r q)).2 ≠ -1 ∧ ((s.lback [] (max r q)).2 = r ∨ (s.lback [] (max r q)).2 = q)) := by
    intro R k P r q hf hm hR h
    have hpos : ∀ x, x ∈ rl r ++ rl q → 0 ≤ x ∧ 1 ≤ s.lrank x := fun x hx => by
      have hxR : x ∈ R := hR.mem_iff.2 (List.mem_append.2 (.inr hx))
      have hxN := hf.root hxR
      have hnd := hR.nodup_iff.1 hf.ndR
      have hxP : x ∉ P := fun e => (List.nodup_append.1 hnd).2.2 x e x hx rfl
      exact ⟨(Ar.has_iff.1 (hb.has x hxN)).1, lrank_pos hb hm hxN hxP⟩
    show _ ∧ ∃ k', Str s s N ∧ Forest s.iv (P ++ rl (max r q)) N k' ∧ LMem s N k' P ∧ (r = -1 → q = -1 → max r q = -1) ∧ (r ≠ -1 ∨ q ≠ -1 → max r q ≠ -1 ∧ (max r q = r ∨ max r q = q))
    by_cases hr : r = -1
    · by_cases hq : q = -1
      · subst hr; subst hq
        exact ⟨by simp [lrank_m1], k, Str.refl _ _, hf.permR (by simpa [rl] using hR), hm, by omega, by omega⟩
      · have h1 := hpos q (by simp [rl_some hq])
        have e : max r q = q := by omega
        rw [e, hr, lrank_m1]
        refine ⟨by simp; omega, k, Str.refl _ _, hf.permR ?_, hm, by omega, by omega⟩
        rw [hr] at hR
        simpa [rl_none] using hR
    · have hq : q = -1 := h.resolve_left hr
      have h1 := hpos r (by simp [rl_some hr])
      have e : max r q = r := by omega
      rw [e, hq, lrank_m1]
      refine ⟨by simp; omega, k, Str.refl _ _, hf.permR ?_, hm, by omega, by omega⟩
      rw [hq] at hR
      simpa [rl_none] using hR
  intro f
  induction f with
  | zero =>
    intro R k P r q hf hm hR hfu
    have hpos : ∀ x, x ∈ rl r ++ rl q → 1 ≤ s.lrank x := fun x hx => by
      have hxR : x ∈ R := hR.mem_iff.2 (List.mem_append.2 (.inr hx))
      have hnd := hR.nodup_iff.1 hf.ndR
      exact lrank_pos hb hm (hf.root hxR) fun e => (List.nodup_append.1 hnd).2.2 x e x hx rfl
    have hr : r = -1 := by
      by_cases hr : r = -1
      · exact hr
      · have h1 := hpos r (by simp [rl_some hr])
        by_cases hq : q = -1
        · rw [hq, lrank_m1] at hfu; simp at hfu; omega
        · have h2 := hpos q (by simp [rl_some hq]); simp at hfu; omega
    exact hend R k P r q hf hm hR (.inl hr)
  | succ f ih =>
    intro R k P r q hf hm hR hfu
    by_cases hrq : r = -1 ∨ q = -1
    · rw [Ar.lpath_end s hrq]
      exact hend R k P r q hf hm hR hrq
    · have hr : r ≠ -1 := fun e => hrq (.inl e)
      have hq : q ≠ -1 := fun e => hrq (.inr e)
      have hrR : r ∈ R := hR.mem_iff.2 (by simp [rl_some hr])
      have hqR : q ∈ R := hR.mem_iff.2 (by simp [rl_some hq])
      have hnd := hR.nodup_iff.1 hf.ndR
      obtain ⟨n1, n2, n3⟩ := List.nodup_append.1 hnd
      rw [rl_some hr, rl_some hq] at n2 n3 hR
      have hrq' : r ≠ q := fun e => by subst e; simp at n2
      -- the lesser one is x, the other one y
      have step : ∀ x y, R.Perm (P ++ [x, y]) → x ∈ R → y ∈ R → x ∉ P → y ∉ P → x ≠ y → lt3 (s.iv x) (s.iv y) → s.lrank x + s.lrank y ≤ (f + 1 : Nat) →
          (((x :: (s.lpath f (s.cell x 3) y).1 : List Int).length : Int) ≤ s.lrank x + s.lrank y ∧ ∃ k', Str s (s.lback (x :: (s.lpath f (s.cell x 3) y).1).reverse (max (s.lpath f (s.cell x 3) y).2.1 (s.lpath f (s.cell x 3) y).2.2)).1 N ∧
            Forest s.iv (P ++ rl (s.lback (x :: (s.lpath f (s.cell x 3) y).1).reverse (max (s.lpath f (s.cell x 3) y).2.1 (s.lpath f (s.cell x 3) y).2.2)).2) N k' ∧
            LMem (s.lback (x :: (s.lpath f (s.cell x 3) y).1).reverse (max (s.lpath f (s.cell x 3) y).2.1 (s.lpath f (s.cell x 3) y).2.2)).1 N k' P ∧ (s.lback (x :: (s.lpath f (s.cell x 3) y).1).reverse (max (s.lpath f (s.cell x 3) y).2.1 (s.lpath f (s.cell x 3) y).2.2)).2 = x) := by
        intro x y hRp hxR hyR hxP hyP hxy hlt hfu
        have hxN := hf.root hxR
        have hyN := hf.root hyR
        obtain ⟨c1, c2, c3, c4⟩ := hm.cl x hxN hxP
        have h3 : s.f x 3 = -1 ∨ s.f x 3 ∈ N := by
          by_cases e : s.f x 3 = -1
          · exact .inl e
          · exact .inr (hf.kid hxN (hm.right hxN hxP e))
        have hc3 : s.cell x 3 = s.f x 3 := hb.cell hxN h3
        rw [hc3]
        have hf1 : Forest s.iv (rl (s.f x 3) ++ R) N (updI k x (rl (s.f x 2))) := by
          by_cases e : s.f x 3 = -1
          · rw [e, rl_none] at c1
            rw [e, rl_none]
            exact hf.congr (fun _ _ => rfl) fun n hn => by
              unfold updI
              split
              · rename_i h; rw [h, c1, List.append_nil]
              · rfl
          · rw [rl_some e] at c1 ⊢
            exact hf.cut hxN (by rw [c1]; exact List.perm_append_singleton _ _)
        have hm1 : LMem s N (updI k x (rl (s.f x 2))) (x :: P) := by
          refine ⟨fun n hn hp => ?_, fun n hn hp => ?_, fun n hn m hm2 => ?_⟩
          · rw [updI_ne _ _ fun e => hp (by simp [e])]
            exact hm.cl n hn fun e => hp (by simp [e])
          · by_cases e : n = x
            · rw [e, updI_same]
            · rw [updI_ne _ _ e]
              exact hm.op n hn ((List.mem_cons.1 hp).resolve_left e)
          · by_cases e : n = x
            · rw [e, updI_same] at hm2
              rw [e]
              exact hm.up x hxN m (by rw [c1]; exact List.mem_append.2 (.inl hm2))
            · rw [updI_ne _ _ e] at hm2
              exact hm.up n hn m hm2
        have hR1 : (rl (s.f x 3) ++ R).Perm ((x :: P) ++ (rl (s.f x 3) ++ rl y)) := by
          rw [rl_some (hb.ne hyN)]
          refine (List.Perm.append_left _ hRp).trans (List.perm_iff_count.2 fun a => ?_)
          simp only [List.count_append, List.count_cons, List.count_nil]
          omega
        have hrk : s.lrank x = s.lrank (s.f x 3) + 1 := by rw [lrank_f hb hxN]; exact c3
        obtain ⟨d1, k', d2, d3, d4, _, d6⟩ := ih _ _ _ _ _ hf1 hm1 hR1 (by omega)
        obtain ⟨d7, d8⟩ := d6 (.inr (hb.ne hyN))
        rw [List.reverse_cons, lback_snoc]
        generalize s.lback (s.lpath f (s.f x 3) y).1.reverse (max (s.lpath f (s.f x 3) y).2.1 (s.lpath f (s.f x 3) y).2.2) = b at *
        rw [rl_some d7] at d3
        have hlt2 : lt3 (s.iv x) (s.iv b.2) := by
          rcases d8 with e | e
          · rw [e]
            rw [e] at d7
            exact hf.ord x hxN _ (hm.right hxN hxP d7)
          · rw [e]; exact hlt
        have hnd2 := d3.ndR
        have htP : b.2 ∉ P := fun e => by
          rw [List.cons_append, List.nodup_cons, List.nodup_append] at hnd2
          exact hnd2.2.2.2 _ e _ (by simp) rfl
        obtain ⟨k2, j1, j2, j3, _⟩ := lclose_law (s := b.1) (Q := P) (by rw [d2.ivf]; exact d3) (d2.base hb) d4 hxP (List.Perm.cons _ (List.perm_append_singleton _ _)) (fun p hp => by simp [hp]) htP (by rw [d2.ivf]; exact hlt2)
        refine ⟨by simp only [List.length_cons]; omega, k2, d2.trans j1, ?_, j3, rfl⟩
        rw [d2.ivf] at j2
        rw [rl_some (hb.ne hxN)]
        exact j2.permR (List.perm_append_singleton _ _).symm
      have hrP : r ∉ P := fun e => n3 r e r (by simp) rfl
      have hqP : q ∉ P := fun e => n3 q e q (by simp) rfl
      rw [Ar.lpath, if_neg hrq]
      cases hbf : s.nbefore q r with
      | true =>
        simp only [if_true]
        have hlt := (hb.before (hf.root hqR) (hf.root hrR)).1 hbf
        obtain ⟨a1, k', a2, a3, a4, a5⟩ := step q r (hR.trans (List.Perm.append_left _ (List.Perm.swap _ _ _))) hqR hrR hqP hrP (Ne.symm hrq') hlt (by omega)
        exact ⟨by omega, k', a2, a3, a4, fun e => absurd e hr, fun _ => ⟨by rw [a5]; exact hq, .inr a5⟩⟩
      | false =>
        simp only [Bool.false_eq_true, if_false]
        have hlt := (hb.nbefore (hf.root hqR) (hf.root hrR) (Ne.symm hrq')).1 hbf
        obtain ⟨a1, k', a2, a3, a4, a5⟩ := step r q hR hrR hqR hrP hqP hrq' hlt (by omega)
        exact ⟨by omega, k', a2, a3, a4, fun e => absurd e hr, fun _ => ⟨by rw [a5]; exact hr, .inl a5⟩⟩
def LHeap (s : Ar) (r : Int) (N : List Int) : Prop := ∃ k, Forest s.iv (rl r) N k ∧ Base s N ∧ LMem s N k [] ∧ ∀ x ∈ rl r, s.f x 0 = -1
theorem LHeap.none {s : Ar} : LHeap s (-1) [] := ⟨fun _ => [], Forest.nil _ _, ⟨by simp, by simp, by simp, by simp⟩, ⟨by simp, by simp, by simp⟩, by simp [rl]⟩
theorem LHeap.least {s : Ar} {r : Int} {N : List Int} (h : LHeap s r N) (hr : r ≠ -1) : r ∈ N ∧ ∀ m ∈ N, m ≠ r → lt3 (s.iv r) (s.iv m) := by
  obtain ⟨k, hf, _⟩ := h
  rw [rl_some hr] at hf
  exact ⟨hf.root (by simp), hf.least (by simp) (by simp)⟩
theorem LHeap.empty {s : Ar} {N : List Int} (h : LHeap s (-1) N) : N = [] := by
  obtain ⟨k, hf, _⟩ := h
  exact Forest.none hf
theorem lrank_le {s : Ar} {R N : List Int} {k : Int → List Int} {n : Int} (hf : Forest s.iv R N k) (hb : Base s N) (hm : LMem s N k []) (hn : n ∈ N) : 1 ≤ s.f n 4 ∧ s.f n 4 ≤ N.length := by
  have h1 : ((R ++ N.flatMap k).map fun n => (s.lrank n).toNat).sum ≤ N.length + ((N.flatMap k).map fun n => (s.lrank n).toNat).sum := by
    have := hf.weight (fun n => (s.lrank n).toNat) fun n hn => by
      obtain ⟨h1, h2, h3, h4⟩ := hm.cl n hn (by simp)
      have e : ∀ c, ((rl c).map fun n => (s.lrank n).toNat).sum = (s.lrank c).toNat := fun c => by
        by_cases hc : c = -1
        · subst hc; simp [rl_none, lrank_m1]
        · simp [rl_some hc]
      rw [h1, List.map_append, List.sum_append, e, e, lrank_f hb hn, h3]
      omega
    rw [List.map_append, List.sum_append]
    omega
  have h2 := (hm.cl n hn (by simp)).2.2.2
  refine ⟨h2, ?_⟩
  -- a node's rank is no more than there are nodes: as many as its rank lie on the way by Right
  have key : ∀ (j : Nat) (n : Int) (L : List Int), n ∈ N → L.Nodup → (∀ x ∈ L, x ∈ N) → (∀ x ∈ L, lt3 (s.iv x) (s.iv n)) → s.f n 4 = j → j + L.length ≤ N.length := by
    intro j
    induction j with
    | zero => intro n L hn hd hL _ _; rw [Nat.zero_add]; exact nodup_sub L N hd hL
    | succ j ih =>
      intro n L hn hd hL hlt hr
      obtain ⟨c1, c2, c3, c4⟩ := hm.cl n hn (by simp)
      have hnL : (n :: L).Nodup := List.nodup_cons.2 ⟨fun e => lt3_irrefl _ (hlt n e), hd⟩
      have hLn : ∀ x ∈ n :: L, x ∈ N := fun x hx => by rcases List.mem_cons.1 hx with e | e; rw [e]; exact hn; exact hL x e
      by_cases h3 : s.f n 3 = -1
      · rw [h3, lrank_m1] at c3
        have := nodup_sub _ N hnL hLn
        simp only [List.length_cons] at this
        omega
      · have hk := hm.right hn (by simp) h3
        have h4 := hf.kid hn hk
        have := ih (s.f n 3) (n :: L) h4 hnL hLn (fun x hx => by
          rcases List.mem_cons.1 hx with e | e
          · rw [e]; exact hf.ord n hn _ hk
          · exact lt3_trans (hlt x e) (hf.ord n hn _ hk)) (by rw [lrank_f hb h4] at c3; omega)
        simp only [List.length_cons] at this
        omega
  have := key (s.f n 4).toNat n [] hn (by simp) (by simp) (by simp) (by omega)
  simp at this
  omega
end Go.Proofs.YtognmhgdegpdiaaGreat
end
section
/- Leftist heaps: Push, Pop, Meld. -/
namespace Go.Proofs.YtognmhgdegpdiaaGreat
set_option linter.unusedVariables false
set_option linter.unusedSimpArgs false
theorem lrank_sum {s : Ar} {R N : List Int} {k : Int → List Int} (hf : Forest s.iv R N k) (hb : Base s N) (hm : LMem s N k []) : (R.map fun n => (s.lrank n).toNat).sum ≤ N.length := by
  refine hf.weight _ fun n hn => ?_
  obtain ⟨h1, h2, h3, h4⟩ := hm.cl n hn (by simp)
  have e : ∀ c, ((rl c).map fun n => (s.lrank n).toNat).sum = (s.lrank c).toNat := fun c => by
    by_cases hc : c = -1
    · subst hc; simp [rl_none, lrank_m1]
    · simp [rl_some hc]
  rw [h1, List.map_append, List.sum_append, e, e, lrank_f hb hn, h3]
  omega
theorem lmeld_law {s : Ar} {N : List Int} {k : Int → List Int} {r q : Int} (hf : Forest s.iv (rl r ++ rl q) N k) (hb : Base s N) (hm : LMem s N k []) :
    LHeap (s.lmeld r q).1 (s.lmeld r q).2 N ∧ Str s (s.lmeld r q).1 N ∧ (r ≠ q → ((s.plen r q : Nat) : Int) ≤ s.lrank r + s.lrank q) := by
  unfold Ar.lmeld
  by_cases hrq : r = q
  · rw [if_pos hrq]
    subst hrq
    have hr : r = -1 := by
      by_cases h : r = -1
      · exact h
      · have := hf.ndR
        rw [rl_some h] at this
        simp at this
    subst hr
    have e : N = [] := Forest.none hf
    subst e
    exact ⟨LHeap.none, Str.refl _ _, fun h => absurd rfl h⟩
  · rw [if_neg hrq]
    have hsum := lrank_sum hf hb hm
    have e : ∀ c, ((rl c).map fun n => (s.lrank n).toNat).sum = (s.lrank c).toNat := fun c => by
      by_cases hc : c = -1
      · subst hc; simp [rl_none, lrank_m1]
      · simp [rl_some hc]
    rw [List.map_append, List.sum_append, e, e] at hsum
    have hNn := hb.le hf.nd fun x hx => hx
    obtain ⟨h1, k', h2, h3, h4, h5, h6⟩ := lpath_law hb (s.n + 1) _ k [] r q hf hm (by simp) (by omega)
    simp only
    unfold Ar.plen
    generalize s.lback (s.lpath (s.n + 1) r q).1.reverse (max (s.lpath (s.n + 1) r q).2.1 (s.lpath (s.n + 1) r q).2.2) = b at *
    rw [List.nil_append] at h3
    have hb1 := h2.base hb
    by_cases ht : b.2 = -1
    · have hN : N = [] := by rw [ht] at h3; exact Forest.none h3
      subst hN
      have e : b.1.put b.2 0 (-1) = b.1 := by unfold Ar.put; rw [ht, Ar.has_m1, if_neg (by decide)]
      rw [e, ht]
      exact ⟨LHeap.none, h2, fun _ => h1⟩
    · have htN : b.2 ∈ N := h3.root (by rw [rl_some ht]; simp)
      have s3 : Str b.1 (b.1.put b.2 0 (-1)) N := Str.put b.1 _ htN (by decide)
      have ef : ∀ c j, (b.1.put b.2 0 (-1)).f c j = if c = b.2 ∧ j = 0 then -1 else b.1.f c j := fun c j => by rw [Ar.put_f]; simp only [hb1.has _ htN, true_and]
      refine ⟨⟨k', by rw [s3.ivf, h2.ivf]; exact h3, s3.base hb1, h4.congr h3 (fun c _ => s3.has c) (fun c _ => ⟨by rw [ef, if_neg (fun e => by omega)], by rw [ef, if_neg (fun e => by omega)], by rw [ef, if_neg (fun e => by omega)]⟩) (fun n hn m hm2 => ?_), fun x hx => ?_⟩, h2.trans s3, fun _ => h1⟩
      · rw [ef, if_neg (fun e => by exact h3.notkid (by rw [rl_some ht]; simp) hn (e.1 ▸ hm2))]
      · obtain ⟨hx1, _⟩ := mem_rl.1 hx
        rw [ef, if_pos ⟨hx1, rfl⟩]
section
variable {s : Ar} {r q i : Int} {N M : List Int}
theorem LHeap.meld (hd : ∀ x ∈ N, x ∉ M) (hx : ∀ n ∈ N, ∀ m ∈ M, s.f m 6 ≠ n ∧ s.f n 6 ≠ m) (h : LHeap s r N) (h' : LHeap s q M) : LHeap (s.lmeld r q).1 (s.lmeld r q).2 (N ++ M) ∧ Str s (s.lmeld r q).1 (N ++ M) ∧ (r ≠ q → ((s.plen r q : Nat) : Int) ≤ s.lrank r + s.lrank q) := by
  obtain ⟨k, hf, hb, hm, _⟩ := h
  obtain ⟨k', hf', hb', hm', _⟩ := h'
  have hrr : ∀ x ∈ M, x ∉ N := fun x hx e => hd x e hx
  have hbb := hb.app hb' hx
  refine lmeld_law (hf.app hf' hbb hd) hbb ⟨fun n hn _ => ?_, fun n hn e => (by cases e), fun n hn m hm2 => ?_⟩
  · rcases List.mem_append.1 hn with hn | hn
    · rw [kk_l hn]; exact hm.cl n hn (by simp)
    · rw [kk_r (hrr n hn)]; exact hm'.cl n hn (by simp)
  · rcases List.mem_append.1 hn with hn | hn
    · rw [kk_l hn] at hm2; exact hm.up n hn m hm2
    · rw [kk_r (hrr n hn)] at hm2; exact hm'.up n hn m hm2
theorem LHeap.push (hok : s.Ok) (ht : s.take.2.1 = true) (hi : s.has i = true) (hiN : i ∉ N) (hiI : ∀ m ∈ N, s.f m 6 ≠ i) (h : LHeap s r N) :
    LHeap (s.lpush r i).1 (s.lpush r i).2 (s.take.1 :: N) ∧ Str (s.newNode i) (s.lpush r i).1 (s.take.1 :: N) ∧ ((((s.newNode i).put s.take.1 4 1).plen r s.take.1 : Nat) : Int) ≤ s.lrank r + 1 := by
  obtain ⟨k, hf, hb, hm, hr⟩ := h
  obtain ⟨hb1, hnN, hiv, hx, hne, _, _, _⟩ := Base.newNode hok ht hi hiN hiI hb
  have eo : ∀ c, c ≠ s.take.1 → ∀ j, j ≠ 9 → (s.newNode i).f c j = s.f c j := fun c hc j hj => by rw [Ar.newNode_f hok ht hi, if_neg (fun e => by exact hj e.2), if_neg (fun e => by exact hc e.1), if_neg hc]
  have en : ∀ j, j ≤ 5 → (s.newNode i).f s.take.1 j = freshF j := fun j hj => by rw [Ar.newNode_f hok ht hi, if_neg (fun e => by omega), if_neg (fun e => by omega), if_pos rfl]
  have hmn : ∀ m ∈ N, m ≠ s.take.1 := fun m hm e => hnN (e ▸ hm)
  have hhas : ∀ c ∈ N, (s.newNode i).has c = s.has c := fun c hc => by rw [hb1.has c (by simp [hc]), hb.has c hc]
  unfold Ar.lpush
  generalize s.newNode i = s1 at *
  generalize s.take.1 = n at *
  have s2 : Str s1 (s1.put n 4 1) (n :: N) := Str.put s1 _ (by simp) (by decide)
  have ef : ∀ c j, (s1.put n 4 1).f c j = if c = n ∧ j = 4 then 1 else s1.f c j := fun c j => by rw [Ar.put_f]; simp only [hb1.has n (by simp), true_and]
  have hb2 := s2.base hb1
  have e2 : ∀ c ∈ N, ∀ j, j ≠ 9 → (s1.put n 4 1).f c j = s.f c j := fun c hc j hj => by rw [ef, if_neg (fun e => by exact hmn c hc e.1), eo c (hmn c hc) j hj]
  have hh2 : ∀ c ∈ N, (s1.put n 4 1).has c = s.has c := fun c hc => by rw [s2.has]; exact hhas c hc
  have hiv2 : ∀ m ∈ N, (s1.put n 4 1).iv m = s.iv m := fun m hm => by rw [s2.iv]; exact hiv m hm
  have m2 : LMem (s1.put n 4 1) N k [] := hm.congr hf hh2 (fun c hc => ⟨e2 c hc 2 (by decide), e2 c hc 3 (by decide), e2 c hc 4 (by decide)⟩) fun x hx y hy => e2 y (hf.kid hx hy) 0 (by decide)
  have f1 : Forest (s1.put n 4 1).iv (n :: rl r) (n :: N) (updI k n []) := (hf.congr hiv2 fun _ _ => rfl).add hnN fun m hm e => hmn m hm (hb2.inj m (by simp [hm]) _ (by simp) e)
  have m1 : LMem (s1.put n 4 1) (n :: N) (updI k n []) [] := by
    refine ⟨fun x hx _ => ?_, fun x hx e => (by cases e), fun x hx y hy => ?_⟩
    · rcases List.mem_cons.1 hx with e | hx
      · rw [e, updI_same, ef, ef, ef, if_neg (fun e => by omega), if_neg (fun e => by omega), if_pos ⟨rfl, rfl⟩, en 2 (by decide), en 3 (by decide)]
        exact ⟨rfl, Int.le_refl _, rfl, by decide⟩
      · rw [updI_ne _ _ (hmn x hx)]
        exact m2.cl x hx (by simp)
    · rcases List.mem_cons.1 hx with e | hx
      · rw [e, updI_same] at hy; cases hy
      · rw [updI_ne _ _ (hmn x hx)] at hy
        exact m2.up x hx y hy
  have hn1 : n ≠ -1 := hb2.ne (by simp)
  have hrn : r ≠ n := fun e => by
    by_cases h : r = -1
    · exact hn1 (e ▸ h)
    · exact hmn r (hf.root (by rw [rl_some h]; simp)) e
  obtain ⟨j1, j2, j3⟩ := lmeld_law (s := s1.put n 4 1) (r := r) (q := n) (f1.permR (by rw [rl_some hn1]; exact (List.perm_append_singleton _ _).symm)) hb2 m1
  refine ⟨j1, s2.trans j2, Int.le_trans (j3 hrn) ?_⟩
  rw [lrank_f hb2 (by simp : n ∈ n :: N), ef, if_pos ⟨rfl, rfl⟩]
  by_cases h : r = -1
  · rw [h, lrank_m1, lrank_m1]; exact Int.le_refl _
  · rw [lrank_eq (hh2 r (hf.root (by rw [rl_some h]; simp))) (e2 r (hf.root (by rw [rl_some h]; simp)) 4 (by decide))]
    exact Int.le_refl _
theorem LHeap.pop (hr : r ≠ -1) (hN : N.Perm (r :: M)) (h : LHeap s r N) :
    LHeap (s.lpop r).1 (s.lpop r).2.1 M ∧ Str (s.endNode r) (s.lpop r).1 N ∧ (s.lpop r).2.2 = s.f r 6 ∧ ((s.plen (s.cell r 2) (s.cell r 3) : Nat) : Int) ≤ s.lrank (s.cell r 2) + s.lrank (s.cell r 3) + 1 ∧ (s.lpop r).1.f r 4 = s.f r 4 := by
  obtain ⟨k, hf, hb, hm, _⟩ := h
  rw [rl_some hr] at hf
  have hrN : r ∈ N := hf.root (by simp)
  have hsM : ∀ x ∈ M, x ∈ N := fun x hx => hN.mem_iff.2 (by simp [hx])
  have hrM : r ∉ M := (List.nodup_cons.1 (hN.nodup_iff.1 hf.nd)).1
  obtain ⟨c1, _⟩ := hm.cl r hrN (by simp)
  have h2 : s.f r 2 = -1 ∨ s.f r 2 ∈ N := by
    by_cases e : s.f r 2 = -1
    · exact .inl e
    · exact .inr (hf.kid hrN (hm.left hrN e))
  have h3 : s.f r 3 = -1 ∨ s.f r 3 ∈ N := by
    by_cases e : s.f r 3 = -1
    · exact .inl e
    · exact .inr (hf.kid hrN (hm.right hrN (by simp) e))
  have e2 := hb.cell hrN h2
  have e3 := hb.cell hrN h3
  have hf1 : Forest s.iv (rl (s.f r 2) ++ rl (s.f r 3)) M k := by
    have := hf.drop (List.Perm.refl _) hN
    rw [List.append_nil, c1] at this
    exact this
  have hm1 : LMem s M k [] := ⟨fun n hn => hm.cl n (hsM n hn), fun n hn e => (by cases e), fun n hn => hm.up n (hsM n hn)⟩
  obtain ⟨j1, j2, j3⟩ := lmeld_law hf1 (hb.sub hsM) hm1
  unfold Ar.lpop Ar.lkids
  rw [e2, e3]
  simp only
  -- the root has nobody above already
  have j4 := j2.mono hsM
  generalize (s.lmeld (s.f r 2) (s.f r 3)).1 = s1 at *
  generalize (s.lmeld (s.f r 2) (s.f r 3)).2 = top at *
  obtain ⟨k', g1, g2, g3, g4⟩ := j1
  have hs : Str s1 (s1.put top 0 (-1)) M := by
    by_cases h : top = -1
    · have e : s1.put top 0 (-1) = s1 := by unfold Ar.put; rw [h, Ar.has_m1, if_neg (by decide)]
      rw [e]; exact Str.refl _ _
    · exact Str.put s1 _ (g1.root (by rw [rl_some h]; simp)) (by decide)
  have hup : ∀ c j, (s1.put top 0 (-1)).f c j = s1.f c j := fun c j => by
    rw [Ar.put_f]
    split
    · rename_i e
      rw [e.2.1, e.2.2]
      by_cases h : top = -1
      · rw [h, Ar.has_m1] at e; cases e.1
      · exact (g4 top (by rw [rl_some h]; simp)).symm
    · rfl
  have hs2 : Str s (s1.put top 0 (-1)) N := j4.trans (hs.mono hsM)
  have hb2 := hs2.base hb
  have ef : ∀ c j, j ≤ 5 → ((s1.put top 0 (-1)).endNode r).f c j = s1.f c j := fun c j hj => by rw [Ar.endNode_f hb2 hrN, if_neg (fun e => by omega), hup]
  have hM : ∀ c ∈ M, c ≠ r := fun c hc e => hrM (e ▸ hc)
  have hhas : ∀ c ∈ M, ((s1.put top 0 (-1)).endNode r).has c = s1.has c := fun c hc => by rw [Ar.endNode_has hb2 hrN c (hM c hc), hs.has]
  refine ⟨⟨k', ?_, hb2.endNode hf.nd hN, g3.congr g1 hhas (fun c _ => ⟨ef c 2 (by decide), ef c 3 (by decide), ef c 4 (by decide)⟩) (fun n hn m _ => ef m 0 (by decide)), fun x hx => ?_⟩, hs2.endNode hb hrN, ?_, ?_, ?_⟩
  · exact g1.congr (fun x _ => by rw [Ar.endNode_iv hb2 hrN, hs.iv]) fun _ _ => rfl
  · rw [ef x 0 (by decide)]; exact g4 x hx
  · rw [hb2.cell6 hrN, hs2.hi r 6 (by decide)]
  · by_cases e : s.f r 2 = s.f r 3
    · have h5 : s.f r 2 = -1 := by
        by_cases h : s.f r 2 = -1
        · exact h
        · have := hf.ndK hrN
          rw [c1, ← e, rl_some h] at this
          simp at this
      rw [← e, h5]
      unfold Ar.plen
      rw [Ar.lpath_end s (.inl rfl)]
      simp [lrank_m1]
    · have := j3 e
      omega
  · rw [ef r 4 (by decide), j2.out r hrM]
end
end Go.Proofs.YtognmhgdegpdiaaGreat
end
