import Derived.Test.YtognmhgdegpdiaaGreatHpAN
import Derived.Test.YtognmhgdegpdiaaGreatTopQs
section
/- Rows of trees by their ranks: forests. -/
namespace Go.Proofs.YtognmhgdegpdiaaGreat
set_option linter.unusedVariables false
set_option linter.unusedSimpArgs false
structure TMem (s : Ar) (N : List Int) (k : Int → List Int) : Prop where
  kc : ∀ n ∈ N, Lk s 3 (s.f n 1) (k n)
  up : ∀ n ∈ N, ∀ m ∈ k n, s.f m 0 = n
theorem TMem.congr {s s' : Ar} {N : List Int} {k : Int → List Int} (h : TMem s N k) (h1 : ∀ c ∈ N, s'.f c 1 = s.f c 1) (hc : ∀ n ∈ N, ∀ c ∈ k n, s'.f c 3 = s.f c 3 ∧ s'.f c 0 = s.f c 0) : TMem s' N k :=
  ⟨fun n hn => by rw [h1 n hn]; exact Lk.congr (fun x hx => (hc n hn x hx).1) (h.kc n hn), fun n hn m hm => by rw [(hc n hn m hm).2]; exact h.up n hn m hm⟩
structure TRk (s : Ar) (N : List Int) (k : Int → List Int) (c : Nat) : Prop where
  rk0 : ∀ n ∈ N, 0 ≤ s.f n 4
  wt : ∀ n ∈ N, 2 ^ (s.f n 4).toNat ≤ 1 + ((k n).map fun m => 2 ^ (s.f m 4).toNat).sum
  kr : ∀ n ∈ N, ((k n).filter fun m => !(s.f m 4 == 0)).length ≤ (s.f n 4).toNat
  kl : ∀ n ∈ N, (k n).length ≤ c * (s.f n 4).toNat
  lr : ∀ n ∈ N, s.f n 4 ≤ (k n).length
structure TAll (s : Ar) (R N : List Int) (k : Int → List Int) (c : Nat) : Prop where
  f : Forest s.iv R N k
  b : Base s N
  m : TMem s N k
  r : TRk s N k c
theorem TAll.permR {s : Ar} {R R' N : List Int} {k : Int → List Int} {c : Nat} (h : TAll s R N k c) (hR : R.Perm R') : TAll s R' N k c := ⟨h.f.permR hR, h.b, h.m, h.r⟩
theorem TAll.links {s s' : Ar} {R N : List Int} {k : Int → List Int} {c : Nat} (h : TAll s R N k c) (hs : Str s s' N) (ho : ∀ x, x ∉ R → ∀ j, s'.f x j = s.f x j) (h4 : ∀ x, s'.f x 1 = s.f x 1 ∧ s'.f x 4 = s.f x 4) : TAll s' R N k c := by
  have e4 : ∀ x, s'.f x 4 = s.f x 4 := fun x => (h4 x).2
  refine ⟨by rw [hs.ivf]; exact h.f, hs.base h.b, h.m.congr (fun x _ => (h4 x).1) (fun n hn x hx => ?_), ⟨fun n hn => by rw [e4]; exact h.r.rk0 n hn, fun n hn => by simp only [e4]; exact h.r.wt n hn, fun n hn => by simp only [e4]; exact h.r.kr n hn, fun n hn => by simp only [e4]; exact h.r.kl n hn, fun n hn => by rw [e4]; exact h.r.lr n hn⟩⟩
  have : x ∉ R := fun e => h.f.notkid e hn hx
  exact ⟨ho x this 3, ho x this 0⟩
section
variable {s : Ar} {v : Int → V3i} {R Q N : List Int} {k : Int → List Int} {c : Nat} {n m q : Int}
theorem tunder_f (hb : Base s N) (hm : n ∈ N) (hn : m ∈ N) (hd : s.f m 1 = -1 ∨ s.f m 1 ∈ N) (x j : Int) : (s.tunder n m).f x j = if x = m ∧ j = 1 then n else if x = n ∧ j = 0 then m else if x = n ∧ j = 3 then s.f m 1 else s.f x j := by
  unfold Ar.tunder
  rw [hb.cell hn hd]
  simp only [Ar.put_f, Ar.put_has, hb.has n hm, hb.has m hn, true_and]
theorem tunder_law (hf : Forest v R N k) (hb : Base s N) (hm : TMem s N k) (hR : R.Perm (m :: n :: Q)) :
    Str s (s.tunder n m) N ∧ TMem (s.tunder n m) N (updI k m (n :: k m)) ∧ (∀ x, x ≠ n → (s.tunder n m).f x 3 = s.f x 3 ∧ (s.tunder n m).f x 0 = s.f x 0) ∧ ∀ x, (s.tunder n m).f x 4 = s.f x 4 := by
  have hmR : m ∈ R := hR.mem_iff.2 (by simp)
  have hnR : n ∈ R := hR.mem_iff.2 (by simp)
  have hmN := hf.root hmR
  have hnN := hf.root hnR
  have hd : s.f m 1 = -1 ∨ s.f m 1 ∈ N := (Lk.at_ (hm.kc m hmN)).imp id (hf.kid hmN)
  have ef := tunder_f hb hnN hmN hd
  have hs : Str s (s.tunder n m) N := ((Str.put s _ hnN (by decide)).trans (Str.put _ _ hnN (by decide))).trans (Str.put _ _ hmN (by decide))
  have e3 : ∀ x, x ≠ n → (s.tunder n m).f x 3 = s.f x 3 ∧ (s.tunder n m).f x 0 = s.f x 0 := fun x hx => by
    constructor
    · rw [ef, if_neg (fun e => by omega), if_neg (fun e => by omega), if_neg (fun e => by exact hx e.1)]
    · rw [ef, if_neg (fun e => by omega), if_neg (fun e => by exact hx e.1), if_neg (fun e => by omega)]
  have hkn : ∀ x ∈ N, ∀ y ∈ k x, y ≠ n := fun x hx y hy e => hf.notkid hnR hx (e ▸ hy)
  refine ⟨hs, ⟨fun x hx => ?_, fun x hx y hy => ?_⟩, e3, fun x => by rw [ef, if_neg (fun e => by omega), if_neg (fun e => by omega), if_neg (fun e => by omega)]⟩
  · by_cases hxm : x = m
    · subst hxm
      rw [updI_same, ef, if_pos ⟨rfl, rfl⟩]
      refine ⟨rfl, ?_⟩
      rw [ef, if_neg (fun e => by omega), if_neg (fun e => by omega), if_pos ⟨rfl, rfl⟩]
      exact Lk.congr (fun y hy => (e3 y (hkn _ hx y hy)).1) (hm.kc _ hx)
    · rw [updI_ne _ _ hxm, ef, if_neg (fun e => by exact hxm e.1), if_neg (fun e => by omega), if_neg (fun e => by omega)]
      exact Lk.congr (fun y hy => (e3 y (hkn x hx y hy)).1) (hm.kc x hx)
  · by_cases hxm : x = m
    · subst hxm
      rw [updI_same] at hy
      rcases List.mem_cons.1 hy with e | hy
      · rw [e, ef, if_neg (fun e => by omega), if_pos ⟨rfl, rfl⟩]
      · rw [(e3 y (hkn _ hx y hy)).2]; exact hm.up _ hx y hy
    · rw [updI_ne _ _ hxm] at hy
      rw [(e3 y (hkn x hx y hy)).2]; exact hm.up x hx y hy
theorem tlink1_law (h : TAll s R N k c) (hc : 1 ≤ c) (hR : R.Perm (m :: n :: Q)) (hlt : lt3 (s.iv m) (s.iv n)) (hq : s.f m 4 = q) (hq2 : s.f n 4 = q) :
    ∃ k', Str s ((s.tunder n m).put m 4 (q + 1)) N ∧ TAll ((s.tunder n m).put m 4 (q + 1)) (m :: Q) N k' c ∧ ((s.tunder n m).put m 4 (q + 1)).f m 4 = q + 1 ∧ (∀ x, x ≠ m → ((s.tunder n m).put m 4 (q + 1)).f x 4 = s.f x 4) ∧
      (∀ x, x ≠ n → ((s.tunder n m).put m 4 (q + 1)).f x 3 = s.f x 3 ∧ ((s.tunder n m).put m 4 (q + 1)).f x 0 = s.f x 0) ∧ (k' m).length ≤ c * q.toNat + 1 ∧ ∀ x, x ≠ m → k' x = k x := by
  have hmR : m ∈ R := hR.mem_iff.2 (by simp)
  have hnR : n ∈ R := hR.mem_iff.2 (by simp)
  have hmN := h.f.root hmR
  have hnN := h.f.root hnR
  have hnd := hR.nodup_iff.1 h.f.ndR
  have hmn : m ≠ n := by rw [List.nodup_cons] at hnd; exact fun e => hnd.1 (by simp [e])
  obtain ⟨g1, g2, g3, g4⟩ := tunder_law h.f h.b h.m hR
  have hm1 : (s.tunder n m).has m = true := by rw [g1.has]; exact h.b.has m hmN
  have ef : ∀ x j, ((s.tunder n m).put m 4 (q + 1)).f x j = if x = m ∧ j = 4 then q + 1 else (s.tunder n m).f x j := fun x j => by rw [Ar.put_f]; simp only [hm1, true_and]
  have hs : Str s ((s.tunder n m).put m 4 (q + 1)) N := g1.trans (Str.put _ _ hmN (by decide))
  have hf' := h.f.link hR (List.Perm.refl (n :: k m)) hlt
  have hne : ∀ x j, j ≠ 4 → ((s.tunder n m).put m 4 (q + 1)).f x j = (s.tunder n m).f x j := fun x j hj => by rw [ef, if_neg (fun e => by exact hj e.2)]
  have hq0 : 0 ≤ q := by rw [← hq]; exact h.r.rk0 m hmN
  have e4m : ((s.tunder n m).put m 4 (q + 1)).f m 4 = q + 1 := by rw [ef, if_pos ⟨rfl, rfl⟩]
  have e4 : ∀ x, x ≠ m → ((s.tunder n m).put m 4 (q + 1)).f x 4 = s.f x 4 := fun x hx => by rw [ef, if_neg (fun e => by exact hx e.1), g4]
  have hkm : ∀ x ∈ N, ∀ y ∈ k x, y ≠ m := fun x hx y hy e => h.f.notkid hmR hx (e ▸ hy)
  have em : ∀ x ∈ N, ((k x).map fun y => 2 ^ (((s.tunder n m).put m 4 (q + 1)).f y 4).toNat) = (k x).map fun y => 2 ^ (s.f y 4).toNat := fun x hx => List.map_congr_left fun y hy => by rw [e4 y (hkm x hx y hy)]
  have efl : ∀ x ∈ N, ((k x).filter fun y => !(((s.tunder n m).put m 4 (q + 1)).f y 4 == 0)) = (k x).filter fun y => !(s.f y 4 == 0) := fun x hx => List.filter_congr fun y hy => by rw [e4 y (hkm x hx y hy)]
  have hkl := h.r.kl m hmN
  rw [hq] at hkl
  refine ⟨_, hs, ⟨by rw [hs.ivf]; exact hf', hs.base h.b, g2.congr (fun x _ => hne x 1 (by decide)) (fun _ _ x _ => ⟨hne x 3 (by decide), hne x 0 (by decide)⟩), ⟨fun x hx => ?_, fun x hx => ?_, fun x hx => ?_, fun x hx => ?_, fun x hx => ?_⟩⟩, e4m, e4, fun x hx => ⟨by rw [hne x 3 (by decide)]; exact (g3 x hx).1, by rw [hne x 0 (by decide)]; exact (g3 x hx).2⟩, ?_, fun x hx => updI_ne _ _ hx⟩
  · by_cases hxm : x = m
    · rw [hxm, e4m]; omega
    · rw [e4 x hxm]; exact h.r.rk0 x hx
  · by_cases hxm : x = m
    · subst hxm
      rw [updI_same, e4m, List.map_cons, List.sum_cons, em x hx, e4 n (Ne.symm hmn), hq2]
      have := h.r.wt x hx
      rw [hq] at this
      rw [show (q + 1).toNat = q.toNat + 1 by omega, Nat.pow_succ]
      omega
    · rw [updI_ne _ _ hxm, e4 x hxm, em x hx]
      exact h.r.wt x hx
  · by_cases hxm : x = m
    · subst hxm
      rw [updI_same, e4m, List.filter_cons, efl x hx]
      have := h.r.kr x hx
      rw [hq] at this
      split <;> (try simp only [List.length_cons]) <;> omega
    · rw [updI_ne _ _ hxm, e4 x hxm, efl x hx]
      exact h.r.kr x hx
  · by_cases hxm : x = m
    · subst hxm
      rw [updI_same, e4m, List.length_cons, show (q + 1).toNat = q.toNat + 1 by omega, Nat.mul_add]
      omega
    · rw [updI_ne _ _ hxm, e4 x hxm]
      exact h.r.kl x hx
  · by_cases hxm : x = m
    · subst hxm
      have := h.r.lr x hx
      rw [hq] at this
      rw [updI_same, e4m, List.length_cons]
      omega
    · rw [updI_ne _ _ hxm, e4 x hxm]
      exact h.r.lr x hx
  · rw [updI_same, List.length_cons]; omega
theorem tlink_law (h : TAll s R N k c) (hc : 1 ≤ c) (hR : R.Perm (n :: m :: Q)) (hq : s.f n 4 = q) (hq2 : s.f m 4 = q) :
    ∃ k', Str s (s.tlink n m q).1 N ∧ TAll (s.tlink n m q).1 ((s.tlink n m q).2 :: Q) N k' c ∧ (s.tlink n m q).1.f (s.tlink n m q).2 4 = q + 1 ∧ (∀ x, x ≠ (s.tlink n m q).2 → (s.tlink n m q).1.f x 4 = s.f x 4) ∧ ((s.tlink n m q).2 = n ∨ (s.tlink n m q).2 = m) ∧
      (∀ x ∈ Q, (s.tlink n m q).1.f x 3 = s.f x 3 ∧ (s.tlink n m q).1.f x 0 = s.f x 0) ∧ (s.tlink n m q).1.f (s.tlink n m q).2 0 = s.f (s.tlink n m q).2 0 ∧ (k' (s.tlink n m q).2).length ≤ c * q.toNat + 1 ∧ ∀ x ∈ Q, k' x = k x := by
  have hnN := h.f.root (hR.mem_iff.2 (by simp) : n ∈ R)
  have hmN := h.f.root (hR.mem_iff.2 (by simp) : m ∈ R)
  have hnd := hR.nodup_iff.1 h.f.ndR
  rw [List.nodup_cons, List.nodup_cons] at hnd
  have hnm : n ≠ m := fun e => hnd.1 (by simp [e])
  have hQn : ∀ x ∈ Q, x ≠ n := fun x hx e => hnd.1 (by rw [← e]; simp [hx])
  have hQm : ∀ x ∈ Q, x ≠ m := fun x hx e => hnd.2.1 (e ▸ hx)
  unfold Ar.tlink
  cases hbf : s.nbefore m n with
  | true =>
    rw [if_pos rfl]
    obtain ⟨k', a1, a2, a3, a4, a5, a6, a7⟩ := tlink1_law h hc (hR.trans (List.Perm.swap _ _ _)) ((h.b.before hmN hnN).1 hbf) hq2 hq
    exact ⟨k', a1, a2, a3, a4, .inr rfl, fun x hx => a5 x (hQn x hx), (a5 m (Ne.symm hnm)).2, a6, fun x hx => a7 x (hQm x hx)⟩
  | false =>
    rw [if_neg (by decide)]
    obtain ⟨k', a1, a2, a3, a4, a5, a6, a7⟩ := tlink1_law h hc hR ((h.b.nbefore hmN hnN (Ne.symm hnm)).1 hbf) hq hq2
    exact ⟨k', a1, a2, a3, a4, .inl rfl, fun x hx => a5 x (hQm x hx), (a5 n hnm).2, a6, fun x hx => a7 x (hQn x hx)⟩
end
theorem trowB_law {N R : List Int} {k : Int → List Int} {c : Nat} : ∀ (l : List Int) (s : Ar) (nx : Int) (acc : List Int), TAll s R N k c → Lk s 3 nx acc → (∀ x ∈ acc, s.f x 0 = -1) → (l ++ acc).Nodup → (∀ x ∈ l ++ acc, x ∈ R) →
    Str s (s.trowB l nx).1 N ∧ TAll (s.trowB l nx).1 R N k c ∧ Lk (s.trowB l nx).1 3 (s.trowB l nx).2 (l.reverse ++ acc) ∧ (∀ x ∈ l.reverse ++ acc, (s.trowB l nx).1.f x 0 = -1) ∧ ∀ x, (s.trowB l nx).1.f x 4 = s.f x 4
  | [], s, nx, acc, h, hl, hu, hd, hR => ⟨Str.refl _ _, h, hl, hu, fun _ => rfl⟩
  | x :: l, s, nx, acc, h, hl, hu, hd, hR => by
    have hxR := hR x (by simp)
    have hxN := h.f.root hxR
    have hx1 := h.b.has x hxN
    rw [List.cons_append, List.nodup_cons] at hd
    have hxa : ∀ y ∈ acc, y ≠ x := fun y hy e => hd.1 (by rw [← e]; simp [hy])
    have ef : ∀ y j, ((s.put x 3 nx).put x 0 (-1)).f y j = if y = x ∧ j = 0 then -1 else if y = x ∧ j = 3 then nx else s.f y j := fun y j => by
      simp only [Ar.put_f, Ar.put_has, hx1, true_and]
    have hs : Str s ((s.put x 3 nx).put x 0 (-1)) N := (Str.put s _ hxN (by decide)).trans (Str.put _ _ hxN (by decide))
    have h1 : TAll ((s.put x 3 nx).put x 0 (-1)) R N k c := h.links hs (fun y hy j => by
      have hyx : y ≠ x := fun e => hy (e ▸ hxR)
      rw [ef, if_neg (fun e => by exact hyx e.1), if_neg (fun e => by exact hyx e.1)]) (fun y => ⟨by rw [ef, if_neg (fun e => by omega), if_neg (fun e => by omega)], by rw [ef, if_neg (fun e => by omega), if_neg (fun e => by omega)]⟩)
    obtain ⟨g1, g2, g3, g4, g5⟩ := trowB_law l ((s.put x 3 nx).put x 0 (-1)) x (x :: acc) h1 ⟨rfl, by
      rw [ef, if_neg (fun e => by omega), if_pos ⟨rfl, rfl⟩]
      exact Lk.congr (fun y hy => by rw [ef, if_neg (fun e => by omega), if_neg (fun e => by exact hxa y hy e.1)]) hl⟩ (fun y hy => by
        rcases List.mem_cons.1 hy with e | hy
        · rw [ef, if_pos ⟨e, rfl⟩]
        · rw [ef, if_neg (fun e => by exact hxa y hy e.1), if_neg (fun e => by omega)]; exact hu y hy) (by
        refine (List.perm_middle.nodup_iff).2 (List.nodup_cons.2 hd)) (fun y hy => hR y (by
        simp only [List.mem_append, List.mem_cons] at hy ⊢
        rcases hy with e | e | e
        · exact .inl (.inr e)
        · exact .inl (.inl e)
        · exact .inr e))
    rw [Ar.trowB]
    refine ⟨hs.trans g1, g2, ?_, fun y hy => g4 y ?_, fun y => by rw [g5, ef, if_neg (fun e => by omega), if_neg (fun e => by omega)]⟩
    · rw [List.reverse_cons, List.append_assoc]; exact g3
    · rw [List.reverse_cons, List.append_assoc] at hy; exact hy
theorem sink_law (x : Int × Int) : ∀ (p acc : List (Int × Int)), p.Pairwise (fun a b => b.2 ≤ a.2) → acc.Pairwise (fun a b => a.2 ≤ b.2) → (∀ a ∈ acc, x.2 ≤ a.2) → (∀ a ∈ p, ∀ b ∈ acc, a.2 ≤ b.2) → (sink x p acc).Pairwise (fun a b => a.2 ≤ b.2) ∧ (sink x p acc).Perm (x :: (p ++ acc))
  | [], acc, _, h2, h3, _ => ⟨List.pairwise_cons.2 ⟨h3, h2⟩, List.Perm.refl _⟩
  | y :: p, acc, h1, h2, h3, h4 => by
    rw [List.pairwise_cons] at h1
    unfold sink
    by_cases h : x.2 < y.2
    · rw [if_pos h]
      obtain ⟨g1, g2⟩ := sink_law x p (y :: acc) h1.2 (List.pairwise_cons.2 ⟨fun b hb => h4 y (by simp) b hb, h2⟩) (fun a ha => by
        rcases List.mem_cons.1 ha with e | e
        · rw [e]; omega
        · exact h3 a e) (fun a ha b hb => by
        rcases List.mem_cons.1 hb with e | e
        · rw [e]; exact h1.1 a ha
        · exact h4 a (by simp [ha]) b e)
      exact ⟨g1, g2.trans (List.Perm.cons _ List.perm_middle)⟩
    · rw [if_neg h]
      constructor
      · rw [List.pairwise_append]
        refine ⟨?_, List.pairwise_cons.2 ⟨h3, h2⟩, fun a ha b hb => ?_⟩
        · rw [List.pairwise_reverse, List.pairwise_cons]
          exact h1
        · have ha' : a = y ∨ a ∈ p := by simpa [or_comm] using ha
          rcases List.mem_cons.1 hb with e | e
          · rw [e]
            rcases ha' with e | e
            · rw [e]; omega
            · have := h1.1 a e; omega
          · rcases ha' with e2 | e2
            · exact h4 a (by simp [e2]) b e
            · exact h4 a (by simp [e2]) b e
      · refine List.perm_middle.trans (List.Perm.cons _ ?_)
        exact (List.reverse_perm _).append_right _
theorem isort_law : ∀ (L P : List (Int × Int)), P.Pairwise (fun a b => a.2 ≤ b.2) → (isort P L).Pairwise (fun a b => a.2 ≤ b.2) ∧ (isort P L).Perm (P ++ L)
  | [], P, h => ⟨h, by simp [isort]⟩
  | x :: L, P, h => by
    obtain ⟨g1, g2⟩ := sink_law x P.reverse [] (by rw [List.pairwise_reverse]; exact h) List.Pairwise.nil (by simp) (by simp)
    obtain ⟨j1, j2⟩ := isort_law L _ g1
    rw [isort]
    refine ⟨j1, j2.trans ((g2.append_right L).trans ?_)⟩
    rw [List.append_nil]
    refine List.Perm.trans ?_ List.perm_middle.symm
    exact List.Perm.cons _ ((List.reverse_perm P).append_right L)
theorem tpos_law (q : Int) : ∀ l : List (Int × Int), l.Pairwise (fun a b => a.2 ≤ b.2) → (∀ a ∈ l.take (tpos q l), a.2 < q) ∧ ∀ a ∈ l.drop (tpos q l), q ≤ a.2
  | [], _ => by simp [tpos]
  | x :: l, h => by
    rw [List.pairwise_cons] at h
    unfold tpos
    by_cases hx : x.2 < q
    · rw [if_pos hx]
      obtain ⟨g1, g2⟩ := tpos_law q l h.2
      refine ⟨fun a ha => ?_, fun a ha => g2 a (by simpa using ha)⟩
      rw [List.take_succ_cons] at ha
      rcases List.mem_cons.1 ha with e | e
      · rw [e]; exact hx
      · exact g1 a e
    · rw [if_neg hx]
      refine ⟨by simp, fun a ha => ?_⟩
      rw [List.drop_zero] at ha
      rcases List.mem_cons.1 ha with e | e
      · rw [e]; omega
      · have := h.1 a e; omega
theorem cgo_law {N Q : List Int} {c : Nat} (hc : 1 ≤ c) : ∀ (f : Nat) (s : Ar) (W : List (Int × Int)) (out R : List Int) (k : Int → List Int), TAll s R N k c → R.Perm (out ++ (W.map (·.1) ++ Q)) → W.Pairwise (fun a b => a.2 ≤ b.2) → (∀ y ∈ W, s.f y.1 4 = y.2) → out.Pairwise (fun a b => s.f a 4 < s.f b 4) → (∀ a ∈ out, ∀ y ∈ W, s.f a 4 < y.2) → W.length ≤ f →
    ∃ k', Str s (Ar.cgo f s W out).1 N ∧ TAll (Ar.cgo f s W out).1 ((Ar.cgo f s W out).2 ++ Q) N k' c ∧ (Ar.cgo f s W out).2.Pairwise (fun a b => (Ar.cgo f s W out).1.f a 4 < (Ar.cgo f s W out).1.f b 4) ∧ ∀ x ∈ Q, k' x = k x ∧ (Ar.cgo f s W out).1.f x 4 = s.f x 4
  | 0, s, W, out, R, k, h, hR, hW, hsync, ho, how, hf => by
    have e : W = [] := List.length_eq_zero_iff.1 (by omega)
    subst e
    exact ⟨k, Str.refl _ _, h.permR hR, ho, fun _ _ => ⟨rfl, rfl⟩⟩
  | f + 1, s, [], out, R, k, h, hR, hW, hsync, ho, how, hf => ⟨k, Str.refl _ _, h.permR hR, ho, fun _ _ => ⟨rfl, rfl⟩⟩
  | f + 1, s, [x], out, R, k, h, hR, hW, hsync, ho, how, hf => by
    rw [Ar.cgo]
    refine cgo_law hc f s [] (out ++ [x.1]) R k h (by simpa using hR) List.Pairwise.nil (by simp) ?_ (by simp) (by simp)
    rw [List.pairwise_append]
    refine ⟨ho, by simp, fun a ha b hb => ?_⟩
    simp only [List.mem_singleton] at hb
    rw [hb, hsync x (by simp)]
    exact how a ha x (by simp)
  | f + 1, s, x :: y :: l, out, R, k, h, hR, hW, hsync, ho, how, hf => by
    rw [List.pairwise_cons, List.pairwise_cons] at hW
    rw [Ar.cgo]
    by_cases hxy : y.2 = x.2
    · rw [if_pos hxy]
      have hR1 : R.Perm (x.1 :: y.1 :: (out ++ (l.map (·.1) ++ Q))) := hR.trans (List.perm_iff_count.2 fun a => by
        simp only [List.map_cons, List.count_append, List.count_cons]; omega)
      obtain ⟨k', a1, a2, a3, a4, a5, _, _, _, a9⟩ := tlink_law h hc hR1 (hsync x (by simp)) (by rw [← hxy]; exact hsync y (by simp))
      have hnd := hR1.nodup_iff.1 h.f.ndR
      rw [List.nodup_cons, List.nodup_cons] at hnd
      have hne : ∀ z ∈ out ++ (l.map (·.1) ++ Q), z ≠ (s.tlink x.1 y.1 x.2).2 := fun z hz e => by
        rcases a5 with e2 | e2
        · exact hnd.1 (by rw [← e2, ← e]; exact List.mem_cons_of_mem _ hz)
        · exact hnd.2.1 (by rw [← e2, ← e]; exact hz)
      have hon : ∀ z ∈ out, (s.tlink x.1 y.1 x.2).1.f z 4 = s.f z 4 := fun z hz => a4 z (hne z (by simp [hz]))
      obtain ⟨t1, t2⟩ := tpos_law (x.2 + 1) l hW.2.2
      have hmem : ∀ z, z ∈ l.take (tpos (x.2 + 1) l) ++ ((s.tlink x.1 y.1 x.2).2, x.2 + 1) :: l.drop (tpos (x.2 + 1) l) → z = ((s.tlink x.1 y.1 x.2).2, x.2 + 1) ∨ z ∈ l := fun z hz => by
        rcases List.mem_append.1 hz with e | e
        · exact .inr (List.mem_of_mem_take e)
        · rcases List.mem_cons.1 e with e | e
          · exact .inl e
          · exact .inr (List.mem_of_mem_drop e)
      have hsplit := List.pairwise_append.1 (by rw [List.take_append_drop (tpos (x.2 + 1) l) l]; exact hW.2.2 : (l.take (tpos (x.2 + 1) l) ++ l.drop (tpos (x.2 + 1) l)).Pairwise (fun a b => a.2 ≤ b.2))
      have hmap : (l.map (·.1)) = (l.take (tpos (x.2 + 1) l)).map (·.1) ++ (l.drop (tpos (x.2 + 1) l)).map (·.1) := by rw [← List.map_append, List.take_append_drop]
      refine Exists.imp (fun k2 b => ⟨a1.trans b.1, b.2.1, b.2.2.1, fun z hz => ⟨(b.2.2.2 z hz).1.trans (a9 z (by simp [hz])), (b.2.2.2 z hz).2.trans (a4 z (hne z (by simp [hz])))⟩⟩) (cgo_law hc f _ (l.take (tpos (x.2 + 1) l) ++ ((s.tlink x.1 y.1 x.2).2, x.2 + 1) :: l.drop (tpos (x.2 + 1) l)) out _ k' a2 ?_ ?_ ?_ ?_ ?_ ?_)
      · refine List.perm_iff_count.2 fun a => ?_
        rw [hmap]
        simp only [List.map_append, List.map_cons, List.count_append, List.count_cons]
        omega
      · rw [List.pairwise_append]
        refine ⟨hsplit.1, List.pairwise_cons.2 ⟨t2, hsplit.2.1⟩, fun a ha b hb => ?_⟩
        rcases List.mem_cons.1 hb with e | e
        · rw [e]; have := t1 a ha; show a.2 ≤ x.2 + 1; omega
        · exact hsplit.2.2 a ha b e
      · intro z hz
        rcases hmem z hz with e | e
        · rw [e]; exact a3
        · rw [a4 z.1 (hne z.1 (List.mem_append.2 (.inr (List.mem_append.2 (.inl (List.mem_map.2 ⟨z, e, rfl⟩))))))]
          exact hsync z (by simp [e])
      · exact ho.imp_of_mem fun ha hb hab => by rw [hon _ ha, hon _ hb]; exact hab
      · intro a ha z hz
        rw [hon a ha]
        rcases hmem z hz with e | e
        · rw [e]; have := how a ha x (by simp); show s.f a 4 < x.2 + 1; omega
        · exact how a ha z (by simp [e])
      · simp only [List.length_append, List.length_cons, List.length_take, List.length_drop] at hf ⊢
        have := tpos_le (x.2 + 1) l
        omega
    · rw [if_neg hxy]
      have hle := hW.1 y (by simp)
      refine cgo_law hc f s (y :: l) (out ++ [x.1]) R k h (by simpa using hR) (List.pairwise_cons.2 hW.2) (fun z hz => hsync z (by simp [List.mem_cons.1 hz])) ?_ ?_ (by simp only [List.length_cons] at hf ⊢; omega)
      · rw [List.pairwise_append]
        refine ⟨ho, by simp, fun a ha b hb => ?_⟩
        simp only [List.mem_singleton] at hb
        rw [hb, hsync x (by simp)]
        exact how a ha x (by simp)
      · intro a ha z hz
        rcases List.mem_append.1 ha with e | e
        · exact how a e z (by simp [List.mem_cons.1 hz])
        · simp only [List.mem_singleton] at e
          rw [e, hsync x (by simp)]
          rcases List.mem_cons.1 hz with e2 | e2
          · rw [e2]; omega
          · have := hW.2.1 z e2; omega
theorem tcarry_law {s : Ar} {N l : List Int} {k : Int → List Int} {c : Nat} (Q : List Int) (hc : 1 ≤ c) (h : TAll s (l ++ Q) N k c) :
    ∃ k' R, Str s (s.tcarry l).1 N ∧ TAll (s.tcarry l).1 (R ++ Q) N k' c ∧ Lk (s.tcarry l).1 3 (s.tcarry l).2 R ∧ (∀ x ∈ R, (s.tcarry l).1.f x 0 = -1) ∧ R.Pairwise (fun a b => (s.tcarry l).1.f a 4 < (s.tcarry l).1.f b 4) ∧ ∀ x ∈ Q, k' x = k x ∧ (s.tcarry l).1.f x 4 = s.f x 4 := by
  obtain ⟨i1, i2⟩ := isort_law (s.tws l) [] List.Pairwise.nil
  rw [List.nil_append] at i2
  have hm1 : (s.tws l).map (·.1) = l := by unfold Ar.tws; rw [List.map_map]; exact List.map_id' l
  have hR : (l ++ Q).Perm ([] ++ ((isort [] (s.tws l)).map (·.1) ++ Q)) := by
    rw [List.nil_append]
    have := (i2.map (·.1)).symm
    rw [hm1] at this
    exact this.append_right Q
  obtain ⟨k', a1, a2, a3, a4⟩ := cgo_law hc l.length s (isort [] (s.tws l)) [] _ k h hR i1 (fun y hy => by
    have hy2 := i2.mem_iff.1 hy
    unfold Ar.tws at hy2
    obtain ⟨z, hz, rfl⟩ := List.mem_map.1 hy2
    exact (Ar.get_f (h.b.has z (h.f.root (by simp [hz]))) 4).symm) List.Pairwise.nil (by simp) (by rw [isort_len]; simp [Ar.tws])
  unfold Ar.tcarry
  generalize s.cgo l.length (isort [] (s.tws l)) [] = b at *
  have hnd := (List.nodup_append.1 a2.f.ndR).1
  obtain ⟨b1, b2, b3, b4, b5⟩ := trowB_law b.2.reverse b.1 (-1) [] a2 rfl (by simp) (by rw [List.append_nil]; exact (List.reverse_perm _).nodup_iff.2 hnd) (fun x hx => by simp at hx ⊢; exact .inl hx)
  rw [List.reverse_reverse, List.append_nil] at b3 b4
  exact ⟨k', _, a1.trans b1, b2, b3, b4, a3.imp fun {a b} hab => by show Ar.f (Ar.trowB _ _ _).1 _ _ < Ar.f (Ar.trowB _ _ _).1 _ _; rw [b5, b5]; exact hab, fun x hx => ⟨(a4 x hx).1, (b5 x).trans (a4 x hx).2⟩⟩
end Go.Proofs.YtognmhgdegpdiaaGreat
end
section
/- Binomial heaps; what all heaps' calls leave as it was. -/
namespace Go.Proofs.YtognmhgdegpdiaaGreat
set_option linter.unusedVariables false
set_option linter.unusedSimpArgs false
structure Frm (s s' : Ar) (N : List Int) : Prop where
  eq : s' = { s with f := s'.f }
  out : ∀ c, c ∉ N → ∀ j, j ≠ 9 → s'.f c j = s.f c j
  k78 : ∀ c, s'.f c 7 = s.f c 7 ∧ s'.f c 8 = s.f c 8
  it : (N.map fun n => s'.f n 6).Perm (N.map fun n => s.f n 6)
  nine : ∀ c, (∀ n ∈ N, s.f n 6 ≠ c) → s'.f c 9 = s.f c 9
theorem Str.frm {s s' : Ar} {N : List Int} (h : Str s s' N) : Frm s s' N :=
  ⟨h.eq, fun c hc j _ => h.out c hc j, fun c => ⟨h.hi c 7 (by decide), h.hi c 8 (by decide)⟩, by rw [List.map_congr_left fun n _ => h.hi n 6 (by decide)], fun c _ => h.hi c 9 (by decide)⟩
namespace Frm
variable {s s' s'' : Ar} {N M L : List Int}
theorem mem6 (h : Frm s s' N) {c : Int} : (∀ n ∈ N, s'.f n 6 ≠ c) ↔ ∀ n ∈ N, s.f n 6 ≠ c := by
  have hm : ∀ {A B : List Int}, A.Perm B → c ∉ A → c ∉ B := fun h1 h2 h3 => h2 (h1.mem_iff.2 h3)
  constructor
  · intro h1 n hn e
    exact hm h.it (fun e2 => by obtain ⟨x, hx, e3⟩ := List.mem_map.1 e2; exact h1 x hx e3) (List.mem_map.2 ⟨n, hn, e⟩)
  · intro h1 n hn e
    exact hm h.it.symm (fun e2 => by obtain ⟨x, hx, e3⟩ := List.mem_map.1 e2; exact h1 x hx e3) (List.mem_map.2 ⟨n, hn, e⟩)
theorem refl (s : Ar) (N : List Int) : Frm s s N := (Str.refl s N).frm
theorem trans (h : Frm s s' N) (k : Frm s' s'' N) : Frm s s'' N :=
  ⟨by rw [k.eq, h.eq], fun c hc j hj => (k.out c hc j hj).trans (h.out c hc j hj), fun c => ⟨(k.k78 c).1.trans (h.k78 c).1, (k.k78 c).2.trans (h.k78 c).2⟩, k.it.trans h.it, fun c hc => (k.nine c (h.mem6.2 hc)).trans (h.nine c hc)⟩
theorem mono (h : Frm s s' N) (hM : M.Perm (L ++ N)) (hL : ∀ x ∈ L, x ∉ N) : Frm s s' M := by
  refine ⟨h.eq, fun c hc => h.out c fun e => hc (hM.mem_iff.2 (by simp [e])), h.k78, ?_, fun c hc => h.nine c fun n hn => hc n (hM.mem_iff.2 (by simp [hn]))⟩
  refine (hM.map _).trans (List.Perm.trans ?_ (hM.map _).symm)
  rw [List.map_append, List.map_append, List.map_congr_left fun n hn => h.out n (hL n hn) 6 (by decide)]
  exact h.it.append_left _
theorem tk (h : Frm s s' N) : s'.tk = s.tk := by rw [h.eq]
theorem n_ (h : Frm s s' N) : s'.n = s.n := by rw [h.eq]
theorem has (h : Frm s s' N) (c : Int) : s'.has c = s.has c := by unfold Ar.has; rw [h.tk, h.n_]
theorem ok (h : Frm s s' N) (k : s.Ok) : s'.Ok := by
  rw [h.eq]
  exact ⟨k.nv, k.cnt, k.fr, k.nd, k.out, k.n1, k.nm, k.bg, k.mo⟩
theorem rb (h : Frm s s' N) {K : Int} (k : s.RB K) (hN : ∀ n ∈ N, -1 ≤ s'.f n 4 ∧ s'.f n 4 ≤ K) : s'.RB K := fun c => by
  by_cases hc : c ∈ N
  · exact hN c hc
  · rw [h.out c hc 4 (by decide)]; exact k c
end Frm
def PwR (s : Ar) (R : List Int) : Prop := R.Pairwise fun a b => s.f a 4 < s.f b 4
def SkR (s : Ar) : List Int → Prop
  | [] => True
  | x :: l => PwR s l ∧ ∀ y ∈ l, s.f x 4 ≤ s.f y 4
theorem PwR.sk {s : Ar} {R : List Int} (h : PwR s R) : SkR s R := by
  cases R with
  | nil => trivial
  | cons x l => have := List.pairwise_cons.1 h; exact ⟨this.2, fun y hy => by have := this.1 y hy; omega⟩
def BHeap (s : Ar) (r : Int) (N : List Int) : Prop := ∃ k R, TAll s R N k 1 ∧ Lk s 3 r R ∧ (∀ x ∈ R, s.f x 0 = -1) ∧ PwR s R
def SHeap (s : Ar) (r : Int) (N : List Int) : Prop := ∃ k R, TAll s R N k 2 ∧ Lk s 3 r R ∧ (∀ x ∈ R, s.f x 0 = -1) ∧ SkR s R
theorem TAll.nil (s : Ar) (k : Int → List Int) (c : Nat) : TAll s [] [] k c := ⟨Forest.nil _ _, ⟨by simp, by simp, by simp, by simp⟩, ⟨by simp, by simp⟩, ⟨by simp, by simp, by simp, by simp, by simp⟩⟩
theorem BHeap.none {s : Ar} : BHeap s (-1) [] := ⟨fun _ => [], [], TAll.nil _ _ _, rfl, by simp, List.Pairwise.nil⟩
theorem SHeap.none {s : Ar} : SHeap s (-1) [] := ⟨fun _ => [], [], TAll.nil _ _ _, rfl, by simp, trivial⟩
theorem mem_le_sum : ∀ {l : List Nat} {x : Nat}, x ∈ l → x ≤ l.sum
  | [], _, h => by cases h
  | y :: l, x, h => by
    rw [List.sum_cons]
    rcases List.mem_cons.1 h with e | e
    · omega
    · have := mem_le_sum e; omega
theorem PwR.sum {s : Ar} : ∀ {R : List Int} (j : Nat), PwR s R → (∀ x ∈ R, (j : Int) ≤ s.f x 4) → 2 ^ (j + R.length) ≤ (R.map fun m => 2 ^ (s.f m 4).toNat).sum + 2 ^ j
  | [], j, _, _ => by simp
  | x :: R, j, h, h0 => by
    have h1 := List.pairwise_cons.1 h
    have h2 := PwR.sum (R := R) (j + 1) h1.2 fun y hy => by have := h1.1 y hy; have := h0 x (by simp); omega
    have h3 : (2 : Nat) ^ j ≤ 2 ^ (s.f x 4).toNat := Nat.pow_le_pow_right (by decide) (by have := h0 x (by simp); omega)
    simp only [List.length_cons, List.map_cons, List.sum_cons]
    rw [show j + (R.length + 1) = j + 1 + R.length by omega]
    rw [Nat.pow_succ] at h2
    omega
section
variable {s : Ar} {v : Int → V3i} {R Q N M : List Int} {k : Int → List Int} {c : Nat} {n m q r i : Int}
theorem TAll.sum (h : TAll s R N k c) : (R.map fun m => 2 ^ (s.f m 4).toNat).sum ≤ N.length := h.f.weight _ fun n hn => h.r.wt n hn
theorem TAll.pw_len (h : TAll s R N k c) (hp : PwR s R) : 2 ^ R.length ≤ N.length + 1 := by
  have h1 := hp.sum 0 fun x hx => by have := h.r.rk0 x (h.f.root hx); omega
  have h2 := h.sum
  simp only [Nat.zero_add, Nat.pow_zero] at h1
  omega
theorem TAll.rank_le (h : TAll s R N k c) (hn : n ∈ R) : 2 ^ (s.f n 4).toNat ≤ N.length := by
  have h1 := h.sum
  have h2 := mem_le_sum (List.mem_map.2 ⟨n, hn, rfl⟩ : 2 ^ (s.f n 4).toNat ∈ R.map fun m => 2 ^ (s.f m 4).toNat)
  omega
theorem TAll.list (h : TAll s R N k c) (hl : Lk s 3 r R) : s.tlist r = R :=
  Lk.row hl (fun x hx => h.b.has x (h.f.root hx)) _ (h.b.le h.f.ndR fun x hx => h.f.root hx)
theorem TAll.kids (h : TAll s R N k c) (hn : n ∈ N) : s.tkids n = k n := by
  have hl := h.m.kc n hn
  unfold Ar.tkids
  rw [h.b.cell hn ((Lk.at_ hl).imp id (h.f.kid hn))]
  exact Lk.row hl (fun x hx => h.b.has x (h.f.kid hn hx)) _ (h.b.le (h.f.ndK hn) fun x hx => h.f.kid hn hx)
theorem TAll.new (hok : s.Ok) (ht : s.take.2.1 = true) (hi : s.has i = true) (hiN : i ∉ N) (hiI : ∀ m ∈ N, s.f m 6 ≠ i) (h : TAll s R N k c) :
    TAll (s.newNode i) (s.take.1 :: R) (s.take.1 :: N) (updI k s.take.1 []) c ∧ s.take.1 ∉ N ∧ (∀ x ∈ N, ∀ j, j ≠ 9 → (s.newNode i).f x j = s.f x j) ∧ ∀ j, j ≤ 5 → (s.newNode i).f s.take.1 j = freshF j := by
  have hf := h.f
  obtain ⟨hb1, hnN, hiv, hx, hne, _, _, _⟩ := Base.newNode hok ht hi hiN hiI h.b
  have eo : ∀ c, c ≠ s.take.1 → ∀ j, j ≠ 9 → (s.newNode i).f c j = s.f c j := fun c hc j hj => by rw [Ar.newNode_f hok ht hi, if_neg (fun e => by exact hj e.2), if_neg (fun e => by exact hc e.1), if_neg hc]
  have en : ∀ j, j ≤ 5 → (s.newNode i).f s.take.1 j = freshF j := fun j hj => by rw [Ar.newNode_f hok ht hi, if_neg (fun e => by omega), if_neg (fun e => by omega), if_pos rfl]
  have hmn : ∀ m ∈ N, m ≠ s.take.1 := fun m hm e => hnN (e ▸ hm)
  refine ⟨?_, hnN, fun x hx => eo x (hmn x hx), en⟩
  generalize s.newNode i = s1 at *
  generalize s.take.1 = n at *
  have e4 : ∀ x ∈ N, ∀ y ∈ k x, s1.f y 4 = s.f y 4 := fun x hx y hy => eo y (hmn y (hf.kid hx hy)) 4 (by decide)
  refine ⟨(hf.congr hiv fun _ _ => rfl).add hnN fun m hm e => hmn m hm (hb1.inj m (by simp [hm]) _ (by simp) e), hb1, ⟨fun z hz => ?_, fun z hz y hy => ?_⟩, ⟨fun z hz => ?_, fun z hz => ?_, fun z hz => ?_, fun z hz => ?_, fun z hz => ?_⟩⟩
  · rcases List.mem_cons.1 hz with e | hz
    · rw [e, updI_same, en 1 (by decide)]; rfl
    · rw [updI_ne _ _ (hmn z hz), eo z (hmn z hz) 1 (by decide)]
      exact Lk.congr (fun x hx => eo x (hmn x (hf.kid hz hx)) 3 (by decide)) (h.m.kc z hz)
  · rcases List.mem_cons.1 hz with e | hz
    · rw [e, updI_same] at hy; cases hy
    · rw [updI_ne _ _ (hmn z hz)] at hy
      rw [eo y (hmn y (hf.kid hz hy)) 0 (by decide)]
      exact h.m.up z hz y hy
  · rcases List.mem_cons.1 hz with e | hz
    · rw [e, en 4 (by decide)]; decide
    · rw [eo z (hmn z hz) 4 (by decide)]; exact h.r.rk0 z hz
  · rcases List.mem_cons.1 hz with e | hz
    · rw [e, updI_same, en 4 (by decide)]; exact Nat.le_refl 1
    · rw [updI_ne _ _ (hmn z hz), eo z (hmn z hz) 4 (by decide), List.map_congr_left fun y hy => by rw [e4 z hz y hy]]
      exact h.r.wt z hz
  · rcases List.mem_cons.1 hz with e | hz
    · rw [e, updI_same]; exact Nat.zero_le _
    · rw [updI_ne _ _ (hmn z hz), eo z (hmn z hz) 4 (by decide), List.filter_congr fun y hy => by rw [e4 z hz y hy]]
      exact h.r.kr z hz
  · rcases List.mem_cons.1 hz with e | hz
    · rw [e, updI_same]; exact Nat.zero_le _
    · rw [updI_ne _ _ (hmn z hz), eo z (hmn z hz) 4 (by decide)]
      exact h.r.kl z hz
  · rcases List.mem_cons.1 hz with e | hz
    · rw [e, updI_same, en 4 (by decide)]; exact Int.le_refl 0
    · rw [updI_ne _ _ (hmn z hz), eo z (hmn z hz) 4 (by decide)]
      exact h.r.lr z hz
theorem TAll.end_ (h : TAll s R N k c) (hR : R.Perm (n :: Q)) (hN : N.Perm (n :: M)) : TAll (s.endNode n) (k n ++ Q) M k c ∧ ∀ x j, j ≠ 9 → (s.endNode n).f x j = s.f x j := by
  have hnN := h.f.root (hR.mem_iff.2 (by simp) : n ∈ R)
  have hsM : ∀ x ∈ M, x ∈ N := fun x hx => hN.mem_iff.2 (by simp [hx])
  have ef : ∀ x j, j ≠ 9 → (s.endNode n).f x j = s.f x j := fun x j hj => by rw [Ar.endNode_f h.b hnN, if_neg (fun e => by exact hj e.2)]
  have e4 : ∀ x, (s.endNode n).f x 4 = s.f x 4 := fun x => ef x 4 (by decide)
  refine ⟨⟨(h.f.drop hR hN).congr (fun x _ => Ar.endNode_iv h.b hnN x) fun _ _ => rfl, h.b.endNode h.f.nd hN, ⟨fun x hx => ?_, fun x hx y hy => ?_⟩, ⟨fun x hx => ?_, fun x hx => ?_, fun x hx => ?_, fun x hx => ?_, fun x hx => ?_⟩⟩, ef⟩
  · rw [ef x 1 (by decide)]
    exact Lk.congr (fun y _ => ef y 3 (by decide)) (h.m.kc x (hsM x hx))
  · rw [ef y 0 (by decide)]; exact h.m.up x (hsM x hx) y hy
  · rw [e4]; exact h.r.rk0 x (hsM x hx)
  · simp only [e4]; exact h.r.wt x (hsM x hx)
  · simp only [e4]; exact h.r.kr x (hsM x hx)
  · simp only [e4]; exact h.r.kl x (hsM x hx)
  · rw [e4]; exact h.r.lr x (hsM x hx)
theorem TAll.app {k' : Int → List Int} {R' : List Int} (h : TAll s R N k c) (h' : TAll s R' M k' c) (hd : ∀ x ∈ N, x ∉ M) (hx : ∀ n ∈ N, ∀ m ∈ M, s.f m 6 ≠ n ∧ s.f n 6 ≠ m) : TAll s (R ++ R') (N ++ M) (kk N k k') c := by
  have hb := h.b.app h'.b hx
  have hr : ∀ x ∈ M, x ∉ N := fun x hx e => hd x e hx
  refine ⟨h.f.app h'.f hb hd, hb, ⟨fun n hn => ?_, fun n hn m hm => ?_⟩, ⟨fun n hn => (List.mem_append.1 hn).elim (h.r.rk0 n) (h'.r.rk0 n), fun n hn => ?_, fun n hn => ?_, fun n hn => ?_, fun n hn => ?_⟩⟩
  · rcases List.mem_append.1 hn with hn | hn
    · rw [kk_l hn]; exact h.m.kc n hn
    · rw [kk_r (hr n hn)]; exact h'.m.kc n hn
  · rcases List.mem_append.1 hn with hn | hn
    · rw [kk_l hn] at hm; exact h.m.up n hn m hm
    · rw [kk_r (hr n hn)] at hm; exact h'.m.up n hn m hm
  · rcases List.mem_append.1 hn with hn | hn
    · rw [kk_l hn]; exact h.r.wt n hn
    · rw [kk_r (hr n hn)]; exact h'.r.wt n hn
  · rcases List.mem_append.1 hn with hn | hn
    · rw [kk_l hn]; exact h.r.kr n hn
    · rw [kk_r (hr n hn)]; exact h'.r.kr n hn
  · rcases List.mem_append.1 hn with hn | hn
    · rw [kk_l hn]; exact h.r.kl n hn
    · rw [kk_r (hr n hn)]; exact h'.r.kl n hn
  · rcases List.mem_append.1 hn with hn | hn
    · rw [kk_l hn]; exact h.r.lr n hn
    · rw [kk_r (hr n hn)]; exact h'.r.lr n hn
theorem tbest_law (hb : Base s N) : ∀ (l : List Int) (b : Int), b ∈ N → (∀ x ∈ l, x ∈ N) → s.tbest b l ∈ b :: l ∧ ∀ m ∈ b :: l, m ≠ s.tbest b l → lt3 (s.iv (s.tbest b l)) (s.iv m)
  | [], b, h, _ => ⟨by simp [Ar.tbest], by simp [Ar.tbest]⟩
  | x :: l, b, h, hl => by
    rw [Ar.tbest]
    have hx := hl x (by simp)
    by_cases hbf : s.nbefore x b = true
    · rw [if_pos (.inr hbf)]
      obtain ⟨g1, g2⟩ := tbest_law hb l x hx fun y hy => hl y (by simp [hy])
      have hlt := (hb.before hx h).1 hbf
      refine ⟨by simp [List.mem_cons.1 g1], fun m hm hne => ?_⟩
      rcases List.mem_cons.1 hm with e | e
      · rw [e]
        by_cases e2 : x = s.tbest x l
        · rw [← e2]; exact hlt
        · exact lt3_trans (g2 x (by simp) e2) hlt
      · exact g2 m e hne
    · rw [if_neg (fun e => by exact e.elim (hb.ne h) hbf)]
      obtain ⟨g1, g2⟩ := tbest_law hb l b h fun y hy => hl y (by simp [hy])
      refine ⟨by rcases List.mem_cons.1 g1 with e | e <;> simp [e], fun m hm hne => ?_⟩
      rcases List.mem_cons.1 hm with e | e
      · exact g2 m (by simp [e]) hne
      · rcases List.mem_cons.1 e with e | e
        · rw [e] at hne ⊢
          by_cases hxb : x = b
          · rw [hxb] at hne ⊢; exact g2 b (by simp) hne
          · have hlt := (hb.nbefore hx h hxb).1 (by simpa using hbf)
            by_cases e2 : b = s.tbest b l
            · rw [← e2]; exact hlt
            · exact lt3_trans (g2 b (by simp) e2) hlt
        · exact g2 m (by simp [e]) hne
theorem TAll.best (h : TAll s R N k c) (hR : R ≠ []) : s.tbest (-1) R ∈ R ∧ ∀ m ∈ N, m ≠ s.tbest (-1) R → lt3 (s.iv (s.tbest (-1) R)) (s.iv m) := by
  cases R with
  | nil => exact absurd rfl hR
  | cons x l =>
    rw [Ar.tbest, if_pos (.inl rfl)]
    obtain ⟨g1, g2⟩ := tbest_law h.b l x (h.f.root (by simp)) fun y hy => h.f.root (by simp [hy])
    exact ⟨g1, h.f.least g1 g2⟩
theorem idel_perm {l : List Int} (hd : l.Nodup) (hn : n ∈ l) : l.Perm (n :: idel n l) := by
  have : idel n l = l.erase n := by rw [hd.erase_eq_filter]; rfl
  rw [this]
  exact List.perm_cons_erase hn
theorem BHeap.empty (h : BHeap s (-1) N) : N = [] := by
  obtain ⟨k, R, h, hl, _⟩ := h
  cases R with
  | nil => exact h.f.none
  | cons x l => exact absurd hl.1.symm (h.b.ne (h.f.root (by simp)))
theorem SHeap.empty (h : SHeap s (-1) N) : N = [] := by
  obtain ⟨k, R, h, hl, _⟩ := h
  cases R with
  | nil => exact h.f.none
  | cons x l => exact absurd hl.1.symm (h.b.ne (h.f.root (by simp)))
theorem Lk.ne_nil {d : Int} (h : Lk s 3 d R) (hd : d ≠ -1) : R ≠ [] := fun e => by rw [e] at h; exact hd h
theorem BHeap.push (hok : s.Ok) (ht : s.take.2.1 = true) (hi : s.has i = true) (hiN : i ∉ N) (hiI : ∀ m ∈ N, s.f m 6 ≠ i) (h : BHeap s r N) :
    BHeap (s.bpush r i).1 (s.bpush r i).2 (s.take.1 :: N) ∧ Str (s.newNode i) (s.bpush r i).1 (s.take.1 :: N) ∧ 2 ^ ((s.newNode i).tlist r).length ≤ N.length + 1 := by
  obtain ⟨k, R, h, hl, hu, hp⟩ := h
  obtain ⟨h1, hnN, eo, en⟩ := h.new hok ht hi hiN hiI
  have hlen := h.pw_len hp
  have hl1 : Lk (s.newNode i) 3 r R := Lk.congr (fun x hx => eo x (h.f.root hx) 3 (by decide)) hl
  have et : (s.newNode i).tlist r = R := Lk.row hl1 (fun x hx => h1.b.has x (by simp [h.f.root hx])) _ (h1.b.le h.f.ndR fun x hx => by simp [h.f.root hx])
  obtain ⟨k', R', g1, g2, g3, g4, g5, _⟩ := tcarry_law (l := s.take.1 :: R) [] (Nat.le_refl 1) (by rw [List.append_nil]; exact h1)
  rw [List.append_nil] at g2
  unfold Ar.bpush
  rw [et]
  exact ⟨⟨k', R', g2, g3, g4, g5⟩, g1, hlen⟩
theorem BHeap.min (hr : r ≠ -1) (h : BHeap s r N) : s.btop r ∈ N ∧ ∀ m ∈ N, m ≠ s.btop r → lt3 (s.iv (s.btop r)) (s.iv m) := by
  obtain ⟨k, R, h, hl, hu, hp⟩ := h
  unfold Ar.btop
  rw [h.list hl]
  obtain ⟨g1, g2⟩ := h.best (hl.ne_nil hr)
  exact ⟨h.f.root g1, g2⟩
theorem bwo_law (h : TAll s R N k 1) (hn : n ∈ R) (hN : N.Perm (n :: M)) : BHeap (s.bwo R n).1 (s.bwo R n).2 M ∧ Str (s.endNode n) (s.bwo R n).1 M := by
  obtain ⟨h1, _⟩ := h.end_ (idel_perm h.f.ndR hn) hN
  obtain ⟨k', R', g1, g2, g3, g4, g5, _⟩ := tcarry_law (l := idel n R ++ k n) [] (Nat.le_refl 1) (by rw [List.append_nil]; exact h1.permR List.perm_append_comm)
  rw [List.append_nil] at g2
  unfold Ar.bwo
  rw [h.kids (h.f.root hn)]
  exact ⟨⟨k', R', g2, g3, g4, g5⟩, g1⟩
theorem BHeap.pop (hr : r ≠ -1) (hN : N.Perm (s.btop r :: M)) (h : BHeap s r N) :
    BHeap (s.bpop r).1 (s.bpop r).2.1 M ∧ Str (s.endNode (s.btop r)) (s.bpop r).1 M ∧ (s.bpop r).2.2 = s.f (s.btop r) 6 ∧ 2 ^ (s.tlist r).length ≤ N.length + 1 ∧ 2 ^ (s.tkids (s.btop r)).length ≤ N.length := by
  obtain ⟨k, R, h, hl, hu, hp⟩ := h
  have hlen := h.pw_len hp
  have e := h.list hl
  unfold Ar.bpop Ar.btop at *
  rw [e] at hN ⊢
  obtain ⟨g1, _⟩ := h.best (hl.ne_nil hr)
  obtain ⟨j1, j2⟩ := bwo_law h g1 hN
  refine ⟨j1, j2, h.b.cell6 (h.f.root g1), hlen, ?_⟩
  rw [h.kids (h.f.root g1)]
  have h2 := h.r.kl _ (h.f.root g1)
  exact Nat.le_trans (Nat.pow_le_pow_right (by decide) (by omega)) (h.rank_le g1)
theorem bmeld_law {c : Nat} {k' : Int → List Int} {R' : List Int} (hc : 1 ≤ c) (hd : ∀ x ∈ N, x ∉ M) (hx : ∀ n ∈ N, ∀ m ∈ M, s.f m 6 ≠ n ∧ s.f n 6 ≠ m) (h : TAll s R N k c) (hl : Lk s 3 r R) (h' : TAll s R' M k' c) (hl' : Lk s 3 q R') :
    (∃ k2 R2, TAll (s.bmeld r q).1 R2 (N ++ M) k2 c ∧ Lk (s.bmeld r q).1 3 (s.bmeld r q).2 R2 ∧ (∀ x ∈ R2, (s.bmeld r q).1.f x 0 = -1) ∧ PwR (s.bmeld r q).1 R2) ∧ Str s (s.bmeld r q).1 (N ++ M) := by
  unfold Ar.bmeld
  by_cases e : r = q
  · rw [if_pos e]
    subst e
    have hr : r = -1 := by
      rcases hl.at_ with e | e
      · exact e
      · rcases hl'.at_ with e2 | e2
        · exact e2
        · exact absurd (h'.f.root e2) (hd r (h.f.root e))
    subst hr
    have e1 : R = [] := by
      cases R with
      | nil => rfl
      | cons x l => exact absurd hl.1.symm (h.b.ne (h.f.root (by simp)))
    have e2 : R' = [] := by
      cases R' with
      | nil => rfl
      | cons x l => exact absurd hl'.1.symm (h'.b.ne (h'.f.root (by simp)))
    subst e1; subst e2
    rw [h.f.none, h'.f.none]
    exact ⟨⟨k, [], TAll.nil _ _ _, rfl, by simp, List.Pairwise.nil⟩, Str.refl _ _⟩
  · rw [if_neg e, h.list hl, h'.list hl']
    obtain ⟨k2, R2, g1, g2, g3, g4, g5, _⟩ := tcarry_law (l := R ++ R') [] hc (by rw [List.append_nil]; exact h.app h' hd hx)
    rw [List.append_nil] at g2
    exact ⟨⟨k2, R2, g2, g3, g4, g5⟩, g1⟩
theorem BHeap.meld (hd : ∀ x ∈ N, x ∉ M) (hx : ∀ n ∈ N, ∀ m ∈ M, s.f m 6 ≠ n ∧ s.f n 6 ≠ m) (h : BHeap s r N) (h' : BHeap s q M) :
    BHeap (s.bmeld r q).1 (s.bmeld r q).2 (N ++ M) ∧ Str s (s.bmeld r q).1 (N ++ M) ∧ 2 ^ (s.tlist r).length ≤ N.length + 1 ∧ 2 ^ (s.tlist q).length ≤ M.length + 1 := by
  obtain ⟨k, R, h, hl, hu, hp⟩ := h
  obtain ⟨k', R', h', hl', hu', hp'⟩ := h'
  obtain ⟨g1, g2⟩ := bmeld_law (Nat.le_refl 1) hd hx h hl h' hl'
  exact ⟨g1, g2, by rw [h.list hl]; exact h.pw_len hp, by rw [h'.list hl']; exact h'.pw_len hp'⟩
end
end Go.Proofs.YtognmhgdegpdiaaGreat
end
section
/- Skew heaps. -/
namespace Go.Proofs.YtognmhgdegpdiaaGreat
set_option linter.unusedVariables false
set_option linter.unusedSimpArgs false
theorem fe_trans {s s' s'' : Ar} (h : s' = { s with f := s'.f }) (k : s'' = { s' with f := s''.f }) : s'' = { s with f := s''.f } := by rw [k, h]
section
variable {s : Ar} {R Q N M : List Int} {k : Int → List Int} {c : Nat} {n m q r i : Int}
theorem swap_law (hb : Base s N) (hnN : n ∈ N) (hmN : m ∈ N) (hnm : n ≠ m) (hd : N.Nodup) :
    Frm s (s.swapItem n m) N ∧ Base (s.swapItem n m) N ∧ (∀ x j, j ≤ 5 → (s.swapItem n m).f x j = s.f x j) ∧ (s.swapItem n m).iv n = s.iv m ∧ (s.swapItem n m).iv m = s.iv n ∧ (∀ x ∈ N, x ≠ n → x ≠ m → (s.swapItem n m).iv x = s.iv x) ∧ (s.swapItem n m).f n 6 = s.f m 6 ∧ (s.swapItem n m).f m 6 = s.f n 6 ∧ ∀ x, x ≠ n → x ≠ m → (s.swapItem n m).f x 6 = s.f x 6 := by
  have hi := hb.it n hnN
  have hj := hb.it m hmN
  have hn1 := hb.has n hnN
  have hm1 := hb.has m hmN
  have hij : s.f n 6 ≠ s.f m 6 := fun e => hnm (hb.inj6 hnN hmN e)
  have ef : ∀ x j, (s.swapItem n m).f x j = if x = s.f n 6 ∧ j = 9 then m else if x = m ∧ j = 6 then s.f n 6 else if x = s.f m 6 ∧ j = 9 then n else if x = n ∧ j = 6 then s.f m 6 else s.f x j := fun x j => by
    unfold Ar.swapItem Ar.putItem
    rw [hb.cell6 hnN, hb.cell6 hmN]
    simp only [Ar.put_f, Ar.put_has, hi, hj, hn1, hm1, true_and]
  have eq : s.swapItem n m = { s with f := (s.swapItem n m).f } := by
    unfold Ar.swapItem Ar.putItem
    exact fe_trans (fe_trans (fe_trans (Ar.put_eq _ _ _ _) (Ar.put_eq _ _ _ _)) (Ar.put_eq _ _ _ _)) (Ar.put_eq _ _ _ _)
  have hhas : ∀ x, (s.swapItem n m).has x = s.has x := fun x => by rw [eq]; rfl
  have e5 : ∀ x j, j ≠ 6 → j ≠ 9 → (s.swapItem n m).f x j = s.f x j := fun x j h6 h9 => by rw [ef, if_neg (fun e => by exact h9 e.2), if_neg (fun e => by exact h6 e.2), if_neg (fun e => by exact h9 e.2), if_neg (fun e => by exact h6 e.2)]
  have f6n : (s.swapItem n m).f n 6 = s.f m 6 := by rw [ef, if_neg (fun e => by omega), if_neg (fun e => by exact hnm e.1), if_neg (fun e => by omega), if_pos ⟨rfl, rfl⟩]
  have f6m : (s.swapItem n m).f m 6 = s.f n 6 := by rw [ef, if_neg (fun e => by omega), if_pos ⟨rfl, rfl⟩]
  have f6o : ∀ x, x ≠ n → x ≠ m → (s.swapItem n m).f x 6 = s.f x 6 := fun x h1 h2 => by rw [ef, if_neg (fun e => by omega), if_neg (fun e => by exact h2 e.1), if_neg (fun e => by omega), if_neg (fun e => by exact h1 e.1)]
  have f9i : (s.swapItem n m).f (s.f n 6) 9 = m := by rw [ef, if_pos ⟨rfl, rfl⟩]
  have f9j : (s.swapItem n m).f (s.f m 6) 9 = n := by rw [ef, if_neg (fun e => by exact hij e.1.symm), if_neg (fun e => by omega), if_pos ⟨rfl, rfl⟩]
  have f9o : ∀ x, x ≠ s.f n 6 → x ≠ s.f m 6 → (s.swapItem n m).f x 9 = s.f x 9 := fun x h1 h2 => by rw [ef, if_neg (fun e => by exact h1 e.1), if_neg (fun e => by omega), if_neg (fun e => by exact h2 e.1), if_neg (fun e => by omega)]
  have hbase : Base (s.swapItem n m) N := by
    refine ⟨fun x hx => by rw [hhas]; exact hb.has x hx, fun x hx => ?_, fun x hx => ?_, fun x hx y hy => ?_⟩
    · rw [hhas]
      by_cases h1 : x = n
      · rw [h1, f6n]; exact hj
      · by_cases h2 : x = m
        · rw [h2, f6m]; exact hi
        · rw [f6o x h1 h2]; exact hb.it x hx
    · by_cases h1 : x = n
      · rw [h1, f6n]; exact f9j
      · by_cases h2 : x = m
        · rw [h2, f6m]; exact f9i
        · rw [f6o x h1 h2, f9o]
          · exact hb.bk x hx
          · exact fun e => h1 (hb.inj6 hx hnN e)
          · exact fun e => h2 (hb.inj6 hx hmN e)
    · by_cases h1 : y = n
      · rw [h1, f6n]; exact hb.di x hx m hmN
      · by_cases h2 : y = m
        · rw [h2, f6m]; exact hb.di x hx n hnN
        · rw [f6o y h1 h2]; exact hb.di x hx y hy
  have hiv : ∀ x y, (s.swapItem n m).f x 6 = s.f y 6 → (s.swapItem n m).iv x = s.iv y := fun x y e => by
    unfold Ar.iv
    rw [e, e5 _ 7 (by decide) (by decide), e5 _ 8 (by decide) (by decide)]
  refine ⟨⟨eq, fun c hc j hj => ?_, fun c => ⟨e5 c 7 (by decide) (by decide), e5 c 8 (by decide) (by decide)⟩, ?_, fun c hc => f9o c (fun e => hc n hnN e.symm) fun e => hc m hmN e.symm⟩, hbase, fun x j hj => e5 x j (by omega) (by omega), hiv n m f6n, hiv m n f6m, fun x _ h1 h2 => hiv x x (f6o x h1 h2), f6n, f6m, f6o⟩
  · rw [ef, if_neg (fun e => by exact hj e.2), if_neg (fun e => by exact hc (e.1 ▸ hmN)), if_neg (fun e => by exact hj e.2), if_neg (fun e => by exact hc (e.1 ▸ hnN))]
  · have h1 := List.perm_cons_erase hnN
    have hm2 : m ∈ N.erase n := (List.mem_erase_of_ne (Ne.symm hnm)).2 hmN
    have h2 := List.perm_cons_erase hm2
    have h3 : N.Perm (n :: m :: (N.erase n).erase m) := h1.trans (List.Perm.cons _ h2)
    have hnd := h3.nodup_iff.1 hd
    rw [List.nodup_cons, List.nodup_cons] at hnd
    refine (h3.map _).trans (List.Perm.trans ?_ (h3.map _).symm)
    simp only [List.map_cons]
    rw [f6n, f6m, List.map_congr_left fun x hx => f6o x (fun e => hnd.1 (by rw [e] at hx; exact List.mem_cons_of_mem _ hx)) fun e => hnd.2.1 (by rw [e] at hx; exact hx)]
    exact List.Perm.swap _ _ _
theorem TAll.swap (h : TAll s R N k c) (hnR : n ∈ R) (hmR : m ∈ R) (hnm : n ≠ m) (hk : k n = []) (hlt : lt3 (s.iv n) (s.iv m)) : TAll (s.swapItem n m) R N k c ∧ lt3 ((s.swapItem n m).iv m) ((s.swapItem n m).iv n) ∧ Frm s (s.swapItem n m) N ∧ ∀ x j, j ≤ 5 → (s.swapItem n m).f x j = s.f x j := by
  have hnN := h.f.root hnR
  have hmN := h.f.root hmR
  obtain ⟨g1, g2, g3, g4, g5, g6, _⟩ := swap_law h.b hnN hmN hnm h.f.nd
  have e4 : ∀ x, (s.swapItem n m).f x 4 = s.f x 4 := fun x => g3 x 4 (by decide)
  refine ⟨⟨⟨h.f.perm, h.f.nd, g2.inj, fun x hx y hy => ?_⟩, g2, h.m.congr (fun x _ => g3 x 1 (by decide)) (fun _ _ x _ => ⟨g3 x 3 (by decide), g3 x 0 (by decide)⟩), ⟨fun x hx => by rw [e4]; exact h.r.rk0 x hx, fun x hx => by simp only [e4]; exact h.r.wt x hx, fun x hx => by simp only [e4]; exact h.r.kr x hx, fun x hx => by simp only [e4]; exact h.r.kl x hx, fun x hx => by rw [e4]; exact h.r.lr x hx⟩⟩, by rw [g4, g5]; exact hlt, g1, g3⟩
  have hyN := h.f.kid hx hy
  have hyn : y ≠ n := fun e => h.f.notkid hnR hx (e ▸ hy)
  have hym : y ≠ m := fun e => h.f.notkid hmR hx (e ▸ hy)
  have h1 := h.f.ord x hx y hy
  rw [g6 y hyN hyn hym]
  by_cases hxn : x = n
  · rw [hxn, hk] at hy; cases hy
  · by_cases hxm : x = m
    · rw [hxm, g5]
      rw [hxm] at h1
      exact lt3_trans hlt h1
    · rw [g6 x hx hxn hxm]; exact h1
theorem tskew_law (h : TAll s R N k 2) (hR : R.Perm (m :: n :: Q)) (hlt : lt3 (s.iv m) (s.iv n)) (hkn : (k m).length + 1 ≤ 2 * (s.f m 4).toNat) (hn0 : s.f n 4 = 0) :
    ∃ k', Str s (s.tunder n m) N ∧ TAll (s.tunder n m) (m :: Q) N k' 2 ∧ (∀ x, x ≠ n → (s.tunder n m).f x 3 = s.f x 3 ∧ (s.tunder n m).f x 0 = s.f x 0) ∧ (∀ x, (s.tunder n m).f x 4 = s.f x 4) ∧ ∀ x, x ≠ m → k' x = k x := by
  obtain ⟨g1, g2, g3, g4⟩ := tunder_law h.f h.b h.m hR
  have hf' := h.f.link hR (List.Perm.refl (n :: k m)) hlt
  refine ⟨_, g1, ⟨by rw [g1.ivf]; exact hf', g1.base h.b, g2, ⟨fun x hx => by rw [g4]; exact h.r.rk0 x hx, fun x hx => ?_, fun x hx => ?_, fun x hx => ?_, fun x hx => ?_⟩⟩, g3, g4, fun x hx => updI_ne _ _ hx⟩
  · simp only [g4]
    have := h.r.wt x hx
    unfold updI
    split
    · rename_i e
      subst e
      rw [List.map_cons, List.sum_cons]
      exact Nat.le_trans this (Nat.add_le_add_left (Nat.le_add_left _ _) 1)
    · exact this
  · simp only [g4]
    have := h.r.kr x hx
    unfold updI
    split
    · rename_i e
      subst e
      rw [List.filter_cons, hn0]
      exact this
    · exact this
  · rw [g4]
    have := h.r.kl x hx
    unfold updI
    split
    · rename_i e
      subst e
      rw [List.length_cons]; omega
    · exact this
  · rw [g4]
    have := h.r.lr x hx
    unfold updI
    split
    · rename_i e
      subst e
      rw [List.length_cons]; omega
    · exact this
theorem ssingle_law (h : TAll s (n :: R ++ Q) N k 2) (hl : Lk s 3 r R) (hu : ∀ x ∈ R, s.f x 0 = -1) (hsk : SkR s R) (hkn : k n = []) (hn0 : s.f n 4 = 0) :
    ∃ k' R', Frm s (s.ssingle r n).1 N ∧ TAll (s.ssingle r n).1 (R' ++ Q) N k' 2 ∧ Lk (s.ssingle r n).1 3 (s.ssingle r n).2 R' ∧ (∀ x ∈ R', (s.ssingle r n).1.f x 0 = -1) ∧ SkR (s.ssingle r n).1 R' ∧ ∀ x ∈ Q, k' x = k x ∧ (s.ssingle r n).1.f x 4 = s.f x 4 := by
  have hnR : n ∈ n :: R ++ Q := by simp
  have hnN := h.f.root hnR
  have hn1 := h.b.has n hnN
  have hRN : ∀ x ∈ R, x ∈ N := fun x hx => h.f.root (by simp [hx])
  have hnd := h.f.ndR
  rw [List.cons_append, List.nodup_cons, List.nodup_append] at hnd
  obtain ⟨d1, d2, d3, d4⟩ := hnd
  have hnR' : ∀ x ∈ R, x ≠ n := fun x hx e => d1 (by rw [← e]; simp [hx])
  have hnQ : ∀ x ∈ Q, x ≠ n := fun x hx e => d1 (by rw [← e]; simp [hx])
  -- ahead of the others
  have plain : PwR s R → ∃ k' R', Frm s ((s.put n 3 r).put n 0 (-1)) N ∧ TAll ((s.put n 3 r).put n 0 (-1)) (R' ++ Q) N k' 2 ∧ Lk ((s.put n 3 r).put n 0 (-1)) 3 n R' ∧ (∀ x ∈ R', ((s.put n 3 r).put n 0 (-1)).f x 0 = -1) ∧ SkR ((s.put n 3 r).put n 0 (-1)) R' ∧ ∀ x ∈ Q, k' x = k x ∧ ((s.put n 3 r).put n 0 (-1)).f x 4 = s.f x 4 := by
    intro hp
    have ef : ∀ y j, ((s.put n 3 r).put n 0 (-1)).f y j = if y = n ∧ j = 0 then -1 else if y = n ∧ j = 3 then r else s.f y j := fun y j => by
      simp only [Ar.put_f, Ar.put_has, hn1, true_and]
    have hs : Str s ((s.put n 3 r).put n 0 (-1)) N := (Str.put s _ hnN (by decide)).trans (Str.put _ _ hnN (by decide))
    have e4 : ∀ y, ((s.put n 3 r).put n 0 (-1)).f y 4 = s.f y 4 := fun y => by rw [ef, if_neg (fun e => by omega), if_neg (fun e => by omega)]
    have h1 : TAll ((s.put n 3 r).put n 0 (-1)) (n :: R ++ Q) N k 2 := h.links hs (fun y hy j => by
      have hyx : y ≠ n := fun e => hy (e ▸ hnR)
      rw [ef, if_neg (fun e => by exact hyx e.1), if_neg (fun e => by exact hyx e.1)]) (fun y => ⟨by rw [ef, if_neg (fun e => by omega), if_neg (fun e => by omega)], e4 y⟩)
    refine ⟨k, n :: R, hs.frm, h1, ⟨rfl, ?_⟩, fun x hx => ?_, ⟨?_, fun y hy => ?_⟩, fun x _ => ⟨rfl, e4 x⟩⟩
    · rw [ef, if_neg (fun e => by omega), if_pos ⟨rfl, rfl⟩]
      exact Lk.congr (fun y hy => by rw [ef, if_neg (fun e => by omega), if_neg (fun e => by exact hnR' y hy e.1)]) hl
    · rcases List.mem_cons.1 hx with e | e
      · rw [ef, if_pos ⟨e, rfl⟩]
      · rw [ef, if_neg (fun e2 => by exact hnR' x e e2.1), if_neg (fun e => by omega)]; exact hu x e
    · exact hp.imp fun {a b} hab => by rw [e4, e4]; exact hab
    · rw [e4, e4, hn0]; exact h.r.rk0 y (hRN y hy)
  unfold Ar.ssingle
  cases R with
  | nil =>
    have hr : r = -1 := hl
    rw [if_pos (.inl (by rw [hr]; rfl))]
    exact plain List.Pairwise.nil
  | cons x l =>
    have hrx : r = x := hl.1
    subst hrx
    have hrN := hRN r (by simp)
    have hr1 := h.b.ne hrN
    have hsec : s.ssec r = s.f r 3 := by
      unfold Ar.ssec
      rw [if_neg hr1, h.b.cell hrN (hl.2.at_.imp id fun e => hRN _ (by simp [e]))]
    rw [hsec]
    cases l with
    | nil =>
      have hr3 : s.f r 3 = -1 := hl.2
      rw [if_pos (.inl hr3)]
      exact plain (List.pairwise_singleton _ _)
    | cons y l =>
      have hr3 : s.f r 3 = y := hl.2.1
      have hyN := hRN y (by simp)
      obtain ⟨sk1, sk2⟩ := hsk
      have sk3 := List.pairwise_cons.1 sk1
      rw [hr3, Ar.get_f (h.b.has y hyN), Ar.get_f (h.b.has r hrN)]
      by_cases hry : s.f y 4 = s.f r 4
      · rw [if_neg (fun e => by exact e.elim (h.b.ne hyN) fun e => e hry)]
        -- the first two make one tree, the new one below it
        have hy3 : s.cell y 3 = s.f y 3 := h.b.cell hyN (hl.2.2.at_.imp id fun e => hRN _ (by simp [e]))
        have hR1 : (n :: (r :: y :: l) ++ Q).Perm (r :: y :: (n :: l ++ Q)) := List.perm_iff_count.2 fun a => by simp only [List.count_cons, List.count_append, List.cons_append]; omega
        obtain ⟨k1, a1, a2, a3, a4, a5, a6, a7, a8, a9⟩ := tlink_law h (by decide) hR1 rfl hry
        unfold Ar.sjoin
        rw [hsec, hr3, Ar.get_f (h.b.has r hrN)]
        simp only
        rw [hy3]
        generalize htop : (s.tlink r y (s.f r 4)).2 = top at *
        generalize (s.tlink r y (s.f r 4)).1 = s1 at *
        have ht1 : top ∈ top :: (n :: l ++ Q) := by simp
        have hnn1 : n ∈ top :: (n :: l ++ Q) := by simp
        have htn : n ≠ top := fun e => by have := a2.f.ndR; rw [List.nodup_cons] at this; exact this.1 (by simp [← e])
        have hk1n : k1 n = [] := by rw [a9 n (by simp)]; exact hkn
        have hr0 := h.r.rk0 r hrN
        -- perhaps with its item
        have step : ∃ s2, (if s1.nbefore n top = true then s1.swapItem n top else s1) = s2 ∧ Frm s1 s2 N ∧ TAll s2 (top :: (n :: l ++ Q)) N k1 2 ∧ lt3 (s2.iv top) (s2.iv n) ∧ ∀ x j, j ≤ 5 → s2.f x j = s1.f x j := by
          cases hbf : s1.nbefore n top with
          | true =>
            have hlt := (a2.b.before (a2.f.root hnn1) (a2.f.root ht1)).1 hbf
            obtain ⟨b1, b2, b3, b4⟩ := a2.swap hnn1 ht1 htn hk1n hlt
            exact ⟨_, if_pos rfl, b3, b1, b2, b4⟩
          | false =>
            exact ⟨_, if_neg (by decide), Frm.refl _ _, a2, (a2.b.nbefore (a2.f.root hnn1) (a2.f.root ht1) htn).1 hbf, fun _ _ _ => rfl⟩
        obtain ⟨s2, e2, f1, f2, f3, f4⟩ := step
        rw [e2]
        have g4 : s2.f top 4 = s.f r 4 + 1 := by rw [f4 top 4 (by decide)]; exact a3
        obtain ⟨k2, b1, b2, b3, b4, b5⟩ := tskew_law f2 (List.Perm.refl _) f3 (by rw [g4]; omega) (by rw [f4 n 4 (by decide), a4 n htn]; exact hn0)
        have htN := b2.f.root (by simp : top ∈ top :: (l ++ Q))
        have htl : ∀ x ∈ l ++ Q, x ≠ top := fun x hx e => by have := b2.f.ndR; rw [List.nodup_cons] at this; exact this.1 (e ▸ hx)
        have ef : ∀ z j, ((s2.tunder n top).put top 3 (s.f y 3)).f z j = if z = top ∧ j = 3 then s.f y 3 else (s2.tunder n top).f z j := fun z j => by
          rw [Ar.put_f]; simp only [b2.b.has top htN, true_and]
        have hs4 : Str (s2.tunder n top) ((s2.tunder n top).put top 3 (s.f y 3)) N := Str.put _ _ htN (by decide)
        have e4 : ∀ z, ((s2.tunder n top).put top 3 (s.f y 3)).f z 4 = s1.f z 4 := fun z => by rw [ef, if_neg (fun e => by omega), b4, f4 z 4 (by decide)]
        have h4 : TAll ((s2.tunder n top).put top 3 (s.f y 3)) (top :: (l ++ Q)) N k2 2 := b2.links hs4 (fun z hz j => by rw [ef, if_neg (fun e => by exact hz (by simp [e.1]))]) (fun z => ⟨by rw [ef, if_neg (fun e => by omega)], by rw [ef, if_neg (fun e => by omega)]⟩)
        have hln : ∀ x ∈ l, x ≠ n := fun x hx => hnR' x (by simp [hx])
        refine ⟨k2, top :: l, ((a1.frm.trans f1).trans b1.frm).trans hs4.frm, h4, ⟨rfl, ?_⟩, fun x hx => ?_, ⟨?_, fun z hz => ?_⟩, fun x hx => ⟨?_, ?_⟩⟩
        · rw [ef, if_pos ⟨rfl, rfl⟩]
          refine Lk.congr (fun z hz => ?_) hl.2.2
          rw [ef, if_neg (fun e => by exact htl z (by simp [hz]) e.1), (b3 z (hln z hz)).1, f4 z 3 (by decide), (a6 z (by simp [hz])).1]
        · rcases List.mem_cons.1 hx with e | e
          · rw [e, ef, if_neg (fun e => by omega), (b3 top (Ne.symm htn)).2, f4 top 0 (by decide), a7]
            rcases a5 with e2 | e2
            · rw [e2]; exact hu r (by simp)
            · rw [e2]; exact hu y (by simp)
          · rw [ef, if_neg (fun e => by omega), (b3 x (hln x e)).2, f4 x 0 (by decide), (a6 x (by simp [e])).2]
            exact hu x (by simp [e])
        · exact sk3.2.imp_of_mem fun {a b} ha hb hab => by rw [e4, e4, a4 a (htl a (by simp [ha])), a4 b (htl b (by simp [hb]))]; exact hab
        · rw [e4, e4, a3, a4 z (htl z (by simp [hz]))]
          have := sk3.1 z hz
          omega
        · rw [b5 x (htl x (by simp [hx])), a9 x (by simp [hx])]
        · rw [e4, a4 x (htl x (by simp [hx]))]
      · rw [if_pos (.inr hry)]
        refine plain (List.pairwise_cons.2 ⟨fun z hz => ?_, sk1⟩)
        have h1 := sk2 y (by simp)
        rcases List.mem_cons.1 hz with e | e
        · rw [e]; omega
        · have := sk3.1 z e; omega
theorem SHeap.push (hok : s.Ok) (ht : s.take.2.1 = true) (hi : s.has i = true) (hiN : i ∉ N) (hiI : ∀ m ∈ N, s.f m 6 ≠ i) (h : SHeap s r N) :
    SHeap (s.spush r i).1 (s.spush r i).2 (s.take.1 :: N) ∧ Frm (s.newNode i) (s.spush r i).1 (s.take.1 :: N) := by
  obtain ⟨k, R, h, hl, hu, hp⟩ := h
  obtain ⟨h1, hnN, eo, en⟩ := h.new hok ht hi hiN hiI
  have hRN : ∀ x ∈ R, x ∈ N := fun x hx => h.f.root hx
  have hl1 : Lk (s.newNode i) 3 r R := Lk.congr (fun x hx => eo x (hRN x hx) 3 (by decide)) hl
  have hsk : SkR (s.newNode i) R := by
    cases R with
    | nil => trivial
    | cons x l =>
      refine ⟨hp.1.imp_of_mem fun {a b} ha hb hab => ?_, fun y hy => ?_⟩
      · rw [eo a (hRN a (by simp [ha])) 4 (by decide), eo b (hRN b (by simp [hb])) 4 (by decide)]; exact hab
      · rw [eo x (hRN x (by simp)) 4 (by decide), eo y (hRN y (by simp [hy])) 4 (by decide)]; exact hp.2 y hy
  obtain ⟨k', R', g1, g2, g3, g4, g5, _⟩ := ssingle_law (Q := []) (by rw [List.append_nil]; exact h1) hl1 (fun x hx => by rw [eo x (hRN x hx) 0 (by decide)]; exact hu x hx) hsk (updI_same _ _ _) (en 4 (by decide))
  rw [List.append_nil] at g2
  exact ⟨⟨k', R', g2, g3, g4, g5⟩, g1⟩
theorem SHeap.min (hr : r ≠ -1) (h : SHeap s r N) : s.btop r ∈ N ∧ ∀ m ∈ N, m ≠ s.btop r → lt3 (s.iv (s.btop r)) (s.iv m) := by
  obtain ⟨k, R, h, hl, hu, hp⟩ := h
  unfold Ar.btop
  rw [h.list hl]
  obtain ⟨g1, g2⟩ := h.best (hl.ne_nil hr)
  exact ⟨h.f.root g1, g2⟩
theorem sones_law {N : List Int} : ∀ (l : List Int) (s : Ar) (r : Int) (R : List Int) (k : Int → List Int), TAll s (R ++ l) N k 2 → Lk s 3 r R → (∀ x ∈ R, s.f x 0 = -1) → SkR s R → (∀ x ∈ l, k x = [] ∧ s.f x 4 = 0) → SHeap (s.sones r l).1 (s.sones r l).2 N ∧ Frm s (s.sones r l).1 N
  | [], s, r, R, k, h, hl, hu, hp, _ => ⟨⟨k, R, by rw [List.append_nil] at h; exact h, hl, hu, hp⟩, Frm.refl _ _⟩
  | x :: l, s, r, R, k, h, hl, hu, hp, hx => by
    obtain ⟨k', R', g1, g2, g3, g4, g5, g6⟩ := ssingle_law (n := x) (Q := l) (h.permR List.perm_middle) hl hu hp (hx x (by simp)).1 (hx x (by simp)).2
    obtain ⟨j1, j2⟩ := sones_law l _ _ R' k' g2 g3 g4 g5 fun y hy => ⟨(g6 y hy).1.trans (hx y (by simp [hy])).1, (g6 y hy).2.trans (hx y (by simp [hy])).2⟩
    exact ⟨j1, g1.trans j2⟩
theorem filter_both (p : Int → Bool) : ∀ l : List Int, l.Perm ((l.filter fun x => !p x) ++ l.filter p)
  | [] => List.Perm.refl _
  | x :: l => by
    rw [List.filter_cons, List.filter_cons]
    cases p x
    · exact List.Perm.cons _ (filter_both p l)
    · exact (List.Perm.cons _ (filter_both p l)).trans List.perm_middle.symm
theorem swo_law (h : TAll s R N k 2) (hn : n ∈ R) (hN : N.Perm (n :: M)) : SHeap (s.swo R n).1 (s.swo R n).2 M ∧ Frm (s.endNode n) (s.swo R n).1 M ∧ (s.krest (s.tkids n)).length ≤ (s.f n 4).toNat ∧ (s.tkids n).length ≤ 2 * (s.f n 4).toNat := by
  have hnN := h.f.root hn
  obtain ⟨h1, e1⟩ := h.end_ (idel_perm h.f.ndR hn) hN
  have ek := h.kids hnN
  have eg : ∀ x ∈ k n, s.get x 4 = s.f x 4 := fun x hx => Ar.get_f (h.b.has x (h.f.kid hnN hx)) 4
  have hz : ∀ x ∈ s.kzero (k n), k x = [] ∧ (s.endNode n).f x 4 = 0 := fun x hx => by
    obtain ⟨hx1, hx2⟩ := List.mem_filter.1 hx
    have e0 : s.f x 4 = 0 := by rw [← eg x hx1]; simpa using hx2
    refine ⟨?_, by rw [e1 x 4 (by decide)]; exact e0⟩
    have := h.r.kl x (h.f.kid hnN hx1)
    rw [e0] at this
    exact List.length_eq_zero_iff.1 (by simpa using this)
  have hp : (k n ++ idel n R).Perm ((idel n R ++ s.krest (k n)) ++ s.kzero (k n)) := by
    refine ((filter_both (fun x => s.get x 4 == 0) (k n)).append_right _).trans ?_
    unfold Ar.krest Ar.kzero
    refine List.perm_iff_count.2 fun a => ?_
    simp only [List.count_append]
    omega
  obtain ⟨k', R', g1, g2, g3, g4, g5, g6⟩ := tcarry_law (l := idel n R ++ s.krest (k n)) (s.kzero (k n)) (by decide) (h1.permR hp)
  obtain ⟨j1, j2⟩ := sones_law (s.kzero (k n)) _ _ R' k' g2 g3 g4 (PwR.sk g5) fun x hx => ⟨(g6 x hx).1.trans (hz x hx).1, (g6 x hx).2.trans (hz x hx).2⟩
  have hkl := h.r.kl n hnN
  have hkr := h.r.kr n hnN
  have ekr : s.krest (k n) = (k n).filter fun m => !(s.f m 4 == 0) := List.filter_congr fun x hx => by rw [eg x hx]
  unfold Ar.swo
  rw [ek]
  exact ⟨j1, g1.frm.trans j2, by rw [ekr]; exact hkr, hkl⟩
theorem TAll.sk_len (h : TAll s R N k c) (hp : SkR s R) : 2 ^ (R.length - 1) ≤ N.length + 1 := by
  cases R with
  | nil => simp
  | cons x l =>
    have h1 := hp.1.sum 0 fun y hy => by have := h.r.rk0 y (h.f.root (by simp [hy])); omega
    have h2 := h.sum
    have h3 : 0 < 2 ^ (s.f x 4).toNat := Nat.pow_pos (by decide)
    simp only [Nat.zero_add, Nat.pow_zero, List.map_cons, List.sum_cons, List.length_cons, Nat.add_sub_cancel] at *
    omega
theorem SHeap.pop (hr : r ≠ -1) (hN : N.Perm (s.btop r :: M)) (h : SHeap s r N) :
    SHeap (s.spop r).1 (s.spop r).2.1 M ∧ Frm (s.endNode (s.btop r)) (s.spop r).1 M ∧ (s.spop r).2.2 = s.f (s.btop r) 6 ∧ 2 ^ ((s.tlist r).length - 1) ≤ N.length + 1 ∧ 2 ^ (s.krest (s.tkids (s.btop r))).length ≤ N.length ∧ ∃ d, (s.tkids (s.btop r)).length ≤ 2 * d ∧ 2 ^ d ≤ N.length := by
  obtain ⟨k, R, h, hl, hu, hp⟩ := h
  have hlen := h.sk_len hp
  have e := h.list hl
  unfold Ar.spop Ar.btop at *
  rw [e] at hN ⊢
  obtain ⟨g1, _⟩ := h.best (hl.ne_nil hr)
  obtain ⟨j1, j2, j3, j4⟩ := swo_law h g1 hN
  have h2 := h.rank_le g1
  exact ⟨j1, j2, h.b.cell6 (h.f.root g1), hlen, Nat.le_trans (Nat.pow_le_pow_right (by decide) j3) h2, _, j4, h2⟩
theorem SHeap.meld (hd : ∀ x ∈ N, x ∉ M) (hx : ∀ n ∈ N, ∀ m ∈ M, s.f m 6 ≠ n ∧ s.f n 6 ≠ m) (h : SHeap s r N) (h' : SHeap s q M) :
    SHeap (s.bmeld r q).1 (s.bmeld r q).2 (N ++ M) ∧ Str s (s.bmeld r q).1 (N ++ M) ∧ 2 ^ ((s.tlist r).length - 1) ≤ N.length + 1 ∧ 2 ^ ((s.tlist q).length - 1) ≤ M.length + 1 := by
  obtain ⟨k, R, h, hl, hu, hp⟩ := h
  obtain ⟨k', R', h', hl', hu', hp'⟩ := h'
  obtain ⟨⟨k2, R2, g1, g3, g4, g5⟩, g2⟩ := bmeld_law (by decide) hd hx h hl h' hl'
  exact ⟨⟨k2, R2, g1, g3, g4, g5.sk⟩, g2, by rw [h.list hl]; exact h.sk_len hp, by rw [h'.list hl']; exact h'.sk_len hp'⟩
end
end Go.Proofs.YtognmhgdegpdiaaGreat
end
section
/- The heap of a kind: Push, Min, Pop, Meld. -/
namespace Go.Proofs.YtognmhgdegpdiaaGreat
set_option linter.unusedVariables false
set_option linter.unusedSimpArgs false
structure Same (s s' : Ar) (N : List Int) : Prop where
  hs : ∀ c ∈ N, s'.has c = s.has c
  hi : ∀ c ∈ N, s'.has (s.f c 6) = s.has (s.f c 6)
  f : ∀ c ∈ N, ∀ j, j ≤ 6 → s'.f c j = s.f c j
  i : ∀ c ∈ N, s'.f (s.f c 6) 7 = s.f (s.f c 6) 7 ∧ s'.f (s.f c 6) 8 = s.f (s.f c 6) 8 ∧ s'.f (s.f c 6) 9 = s.f (s.f c 6) 9
section
variable {s s' : Ar} {N M R : List Int} {r q i k : Int} {kk' : Int → List Int} {c : Nat}
theorem Same.iv (e : Same s s' N) {x : Int} (hx : x ∈ N) : s'.iv x = s.iv x := by
  unfold Ar.iv
  rw [e.f x hx 6 (by decide), (e.i x hx).1, (e.i x hx).2.1]
theorem Base.same (h : Base s N) (e : Same s s' N) : Base s' N :=
  ⟨fun n hn => by rw [e.hs n hn]; exact h.has n hn, fun n hn => by rw [e.f n hn 6 (by decide), e.hi n hn]; exact h.it n hn, fun n hn => by rw [e.f n hn 6 (by decide), (e.i n hn).2.2]; exact h.bk n hn, fun n hn m hm => by rw [e.f m hm 6 (by decide)]; exact h.di n hn m hm⟩
theorem PHeap.same (h : PHeap s r N) (e : Same s s' N) : PHeap s' r N := by
  obtain ⟨k, hf, hb, hm, ht⟩ := h
  refine ⟨k, hf.congr (fun x hx => e.iv hx) (fun _ _ => rfl), hb.same e, hm.congr (fun n hn m => hf.kid hn) (fun c hc j _ hj => e.f c hc j (by omega)), fun n hn => ?_⟩
  have := hf.root hn
  rw [e.f n this 0 (by decide), e.f n this 2 (by decide)]
  exact ht n hn
theorem FHeap.same (h : FHeap s r N) (e : Same s s' N) : FHeap s' r N := by
  obtain ⟨k, R, h, hg, hl⟩ := h
  have hR : ∀ x ∈ R, x ∈ N := fun x hx => h.f.root hx
  have hrN : r = -1 ∨ r ∈ N := hg.at_.imp id (hR r)
  refine ⟨k, R, ⟨Str.refl _ _, h.f.congr (fun x hx => e.iv hx) (fun _ _ => rfl), h.b.same e, h.m.congr (fun n hn m => h.f.kid hn) (fun c hc => e.f c hc 1 (by decide)) (fun n hn c hc => ⟨e.f c (h.f.kid hn hc) 2 (by decide), e.f c (h.f.kid hn hc) 3 (by decide), e.f c (h.f.kid hn hc) 0 (by decide)⟩), fun n hn => by rw [e.f n hn 4 (by decide)]; exact h.rk n hn, fun n hn => by rw [e.f n (hR n hn) 0 (by decide)]; exact h.rt n hn⟩,
    Rg.congr (fun x hx => ⟨e.f x (hR x hx) 2 (by decide), e.f x (hR x hx) 3 (by decide)⟩) hg, fun m hm hne => ?_⟩
  rcases hrN with e1 | e1
  · cases R with
    | nil => cases hm
    | cons x l => exact absurd (hg.1.symm.trans e1) (h.b.ne (hR x (by simp)))
  · rw [e.iv e1, e.iv (hR m hm)]; exact hl m hm hne
theorem LHeap.same (h : LHeap s r N) (e : Same s s' N) : LHeap s' r N := by
  obtain ⟨k, hf, hb, hm, ht⟩ := h
  exact ⟨k, hf.congr (fun x hx => e.iv hx) (fun _ _ => rfl), hb.same e, hm.congr hf e.hs (fun c hc => ⟨e.f c hc 2 (by decide), e.f c hc 3 (by decide), e.f c hc 4 (by decide)⟩) (fun n hn m hm2 => e.f m (hf.kid hn hm2) 0 (by decide)), fun x hx => by rw [e.f x (hf.root hx) 0 (by decide)]; exact ht x hx⟩
theorem TAll.same (h : TAll s R N kk' c) (e : Same s s' N) : TAll s' R N kk' c := by
  have e4 : ∀ n ∈ N, s'.f n 4 = s.f n 4 := fun n hn => e.f n hn 4 (by decide)
  have ek : ∀ n ∈ N, ∀ x ∈ kk' n, s'.f x 4 = s.f x 4 := fun n hn x hx => e4 x (h.f.kid hn hx)
  exact ⟨h.f.congr (fun x hx => e.iv hx) (fun _ _ => rfl), h.b.same e, h.m.congr (fun c hc => e.f c hc 1 (by decide)) (fun n hn c hc => ⟨e.f c (h.f.kid hn hc) 3 (by decide), e.f c (h.f.kid hn hc) 0 (by decide)⟩),
    ⟨fun n hn => by rw [e4 n hn]; exact h.r.rk0 n hn, fun n hn => by rw [e4 n hn, List.map_congr_left fun x hx => by rw [ek n hn x hx]]; exact h.r.wt n hn, fun n hn => by rw [e4 n hn, List.filter_congr fun x hx => by rw [ek n hn x hx]]; exact h.r.kr n hn, fun n hn => by rw [e4 n hn]; exact h.r.kl n hn, fun n hn => by rw [e4 n hn]; exact h.r.lr n hn⟩⟩
theorem BHeap.same (h : BHeap s r N) (e : Same s s' N) : BHeap s' r N := by
  obtain ⟨k, R, h, hl, hu, hp⟩ := h
  have hR : ∀ x ∈ R, x ∈ N := fun x hx => h.f.root hx
  exact ⟨k, R, h.same e, Lk.congr (fun x hx => e.f x (hR x hx) 3 (by decide)) hl, fun x hx => by rw [e.f x (hR x hx) 0 (by decide)]; exact hu x hx, hp.imp_of_mem fun {a b} ha hb hab => by rw [e.f a (hR a ha) 4 (by decide), e.f b (hR b hb) 4 (by decide)]; exact hab⟩
theorem SHeap.same (h : SHeap s r N) (e : Same s s' N) : SHeap s' r N := by
  obtain ⟨k, R, h, hl, hu, hp⟩ := h
  have hR : ∀ x ∈ R, x ∈ N := fun x hx => h.f.root hx
  refine ⟨k, R, h.same e, Lk.congr (fun x hx => e.f x (hR x hx) 3 (by decide)) hl, fun x hx => by rw [e.f x (hR x hx) 0 (by decide)]; exact hu x hx, ?_⟩
  cases R with
  | nil => trivial
  | cons x l => exact ⟨hp.1.imp_of_mem fun {a b} ha hb hab => by rw [e.f a (hR a (by simp [ha])) 4 (by decide), e.f b (hR b (by simp [hb])) 4 (by decide)]; exact hab, fun y hy => by rw [e.f x (hR x (by simp)) 4 (by decide), e.f y (hR y (by simp [hy])) 4 (by decide)]; exact hp.2 y hy⟩
def KHeap (k : Int) (s : Ar) (r : Int) (N : List Int) : Prop := if k = 1 then LHeap s r N else if k = 2 then BHeap s r N else if k = 3 then SHeap s r N else if k = 4 then FHeap s r N else PHeap s r N ∧ ∀ n ∈ N, s.f n 4 = 0
theorem KHeap.cases (h : KHeap k s r N) : (k = 1 ∧ LHeap s r N) ∨ (k = 2 ∧ BHeap s r N) ∨ (k = 3 ∧ SHeap s r N) ∨ (k = 4 ∧ FHeap s r N) ∨ ((k ≠ 1 ∧ k ≠ 2 ∧ k ≠ 3 ∧ k ≠ 4) ∧ PHeap s r N ∧ ∀ n ∈ N, s.f n 4 = 0) := by
  unfold KHeap at h
  by_cases h1 : k = 1
  · rw [if_pos h1] at h; exact .inl ⟨h1, h⟩
  · rw [if_neg h1] at h
    by_cases h2 : k = 2
    · rw [if_pos h2] at h; exact .inr (.inl ⟨h2, h⟩)
    · rw [if_neg h2] at h
      by_cases h3 : k = 3
      · rw [if_pos h3] at h; exact .inr (.inr (.inl ⟨h3, h⟩))
      · rw [if_neg h3] at h
        by_cases h4 : k = 4
        · rw [if_pos h4] at h; exact .inr (.inr (.inr (.inl ⟨h4, h⟩)))
        · rw [if_neg h4] at h; exact .inr (.inr (.inr (.inr ⟨⟨h1, h2, h3, h4⟩, h⟩)))
theorem kheap5 (h : k ≠ 1 ∧ k ≠ 2 ∧ k ≠ 3 ∧ k ≠ 4) : KHeap k s r N = (PHeap s r N ∧ ∀ n ∈ N, s.f n 4 = 0) := by unfold KHeap; rw [if_neg h.1, if_neg h.2.1, if_neg h.2.2.1, if_neg h.2.2.2]
theorem KHeap.same (h : KHeap k s r N) (e : Same s s' N) : KHeap k s' r N := by
  rcases h.cases with ⟨rfl, h⟩ | ⟨rfl, h⟩ | ⟨rfl, h⟩ | ⟨rfl, h⟩ | ⟨hk, h, h4⟩
  · exact h.same e
  · exact h.same e
  · exact h.same e
  · exact h.same e
  · rw [kheap5 hk]; exact ⟨h.same e, fun n hn => by rw [e.f n hn 4 (by decide)]; exact h4 n hn⟩
theorem KHeap.base (h : KHeap k s r N) : Base s N ∧ N.Nodup := by
  rcases h.cases with ⟨rfl, h⟩ | ⟨rfl, h⟩ | ⟨rfl, h⟩ | ⟨rfl, h⟩ | ⟨hk, h, h4⟩
  · obtain ⟨k, hf, hb, _⟩ := h; exact ⟨hb, hf.nd⟩
  · obtain ⟨k, R, h, _⟩ := h; exact ⟨h.b, h.f.nd⟩
  · obtain ⟨k, R, h, _⟩ := h; exact ⟨h.b, h.f.nd⟩
  · obtain ⟨k, R, h, _⟩ := h; exact ⟨h.b, h.f.nd⟩
  · obtain ⟨k, hf, hb, _⟩ := h; exact ⟨hb, hf.nd⟩
theorem KHeap.none (k : Int) (s : Ar) : KHeap k s (-1) [] := by
  unfold KHeap
  split
  · exact LHeap.none
  · split
    · exact BHeap.none
    · split
      · exact SHeap.none
      · split
        · exact FHeap.none
        · exact ⟨PHeap.none, by simp⟩
theorem KHeap.empty (h : KHeap k s (-1) N) : N = [] := by
  rcases h.cases with ⟨rfl, h⟩ | ⟨rfl, h⟩ | ⟨rfl, h⟩ | ⟨rfl, h⟩ | ⟨hk, h, h4⟩
  · exact h.empty
  · exact h.empty
  · exact h.empty
  · exact h.empty
  · exact h.empty
theorem KHeap.rootN (h : KHeap k s r N) (hr : r ≠ -1) : r ∈ N := by
  rcases h.cases with ⟨rfl, h⟩ | ⟨rfl, h⟩ | ⟨rfl, h⟩ | ⟨rfl, h⟩ | ⟨hk, h, h4⟩
  · exact (h.least hr).1
  · obtain ⟨k, R, h, hl, _⟩ := h; exact h.f.root (hl.at_.resolve_left hr)
  · obtain ⟨k, R, h, hl, _⟩ := h; exact h.f.root (hl.at_.resolve_left hr)
  · exact (h.least hr).1
  · exact (h.least hr).1
theorem FAll.rank {s0 : Ar} (h : FAll s0 s R N kk') {n : Int} (hn : n ∈ N) : 0 ≤ s.f n 4 ∧ s.f n 4 ≤ N.length := by
  have := nodup_sub _ N (h.f.ndK hn) fun x hx => h.f.kid hn hx
  rw [h.rk n hn]; omega
theorem TAll.rank (h : TAll s R N kk' c) {n : Int} (hn : n ∈ N) : 0 ≤ s.f n 4 ∧ s.f n 4 ≤ N.length := by
  have := nodup_sub _ N (h.f.ndK hn) fun x hx => h.f.kid hn hx
  have := h.r.rk0 n hn
  have := h.r.lr n hn
  omega
theorem KHeap.rank (h : KHeap k s r N) {n : Int} (hn : n ∈ N) : 0 ≤ s.f n 4 ∧ s.f n 4 ≤ N.length := by
  rcases h.cases with ⟨rfl, h⟩ | ⟨rfl, h⟩ | ⟨rfl, h⟩ | ⟨rfl, h⟩ | ⟨hk, h, h4⟩
  · obtain ⟨k, hf, hb, hm, _⟩ := h; have := lrank_le hf hb hm hn; omega
  · obtain ⟨k, R, h, _⟩ := h; exact h.rank hn
  · obtain ⟨k, R, h, _⟩ := h; exact h.rank hn
  · obtain ⟨k, R, h, _⟩ := h; exact h.rank hn
  · rw [h4 n hn]; omega
theorem KHeap.rank_in (h : KHeap k s r N) (ho : s.Ok) {n : Int} (hn : n ∈ N) : -1 ≤ s.f n 4 ∧ s.f n 4 ≤ 70000 := by
  have h1 := h.rank hn
  have h2 := h.base.1.le h.base.2 fun x hx => hx
  have := ho.nm
  omega
-- pairing heaps turn no rank
theorem put_f4 (s : Ar) (c k v d : Int) (hk : k ≠ 4) : (s.put c k v).f d 4 = s.f d 4 := by rw [Ar.put_f, if_neg (fun e => by exact hk e.2.2.symm)]
theorem punder_f4 (s : Ar) (n m d : Int) : (s.punder n m).f d 4 = s.f d 4 := by
  unfold Ar.punder
  rw [put_f4 _ _ _ _ _ (by decide)]
  split
  · rw [put_f4 _ _ _ _ _ (by decide), put_f4 _ _ _ _ _ (by decide)]
  · rw [put_f4 _ _ _ _ _ (by decide), put_f4 _ _ _ _ _ (by decide), put_f4 _ _ _ _ _ (by decide)]
theorem plink_f4 (s : Ar) (n m d : Int) : (s.plink n m).1.f d 4 = s.f d 4 := by
  unfold Ar.plink
  split
  · rfl
  · split
    · rfl
    · split <;> exact punder_f4 _ _ _ _
theorem proots_f4 (d : Int) : ∀ (l : List Int) (s : Ar), (s.proots l).f d 4 = s.f d 4
  | [], s => rfl
  | x :: l, s => by
    refine (proots_f4 d l (s.proot x)).trans ?_
    unfold Ar.proot
    rw [put_f4 _ _ _ _ _ (by decide), put_f4 _ _ _ _ _ (by decide), put_f4 _ _ _ _ _ (by decide)]
theorem ppairs_f4 (d : Int) : ∀ (n : Nat) (l : List Int) (s : Ar), l.length ≤ n → (s.ppairs l).1.f d 4 = s.f d 4
  | _, [], s, _ => rfl
  | _, [x], s, _ => rfl
  | 0, x :: y :: l, s, h => by simp at h
  | n + 1, x :: y :: l, s, h => (ppairs_f4 d n l (s.plink x y).1 (by simp at h; omega)).trans (plink_f4 _ _ _ _)
theorem pfold_f4 (d : Int) : ∀ (l : List Int) (s : Ar) (t : Int), (s.pfold l t).1.f d 4 = s.f d 4
  | [], s, t => rfl
  | x :: l, s, t => (pfold_f4 d l _ _).trans (plink_f4 _ _ _ _)
theorem paired_f4 (s : Ar) (l : List Int) (d : Int) : (s.paired l).1.f d 4 = s.f d 4 := by
  unfold Ar.paired
  rw [pfold_f4, ppairs_f4 d _ _ _ (Nat.le_refl _), proots_f4]
theorem pow_lt {a b e : Nat} (h : 2 ^ a ≤ b) (hb : b < 2 ^ e) : a < e := by
  apply Classical.byContradiction
  intro hn
  have := Nat.pow_le_pow_right (n := 2) (by decide) (show e ≤ a by omega)
  omega
theorem Pre.mk_ (ho : s.Ok) (hr : s.RB 70000) : Pre s := ⟨ho, ho.n1, ho.nm, hr.mono (by decide)⟩
theorem Frm.up (h : Frm s s' M) {n : Int} (hN : N.Perm (n :: M)) (hd : N.Nodup) : Frm s s' N :=
  h.mono (L := [n]) hN fun x hx => by
    have := hN.nodup_iff.1 hd
    rw [List.nodup_cons] at this
    simp only [List.mem_singleton] at hx
    rw [hx]; exact this.1
theorem KHeap.push (ho : s.Ok) (hr : s.RB 70000) (ht : s.take.2.1 = true) (hi : s.has i = true) (hiN : i ∉ N) (hiI : ∀ m ∈ N, s.f m 6 ≠ i) (hl : N.length ≤ 300) (h : KHeap k s r N) :
    KHeap k (Ar.kpush k s r i).1 (Ar.kpush k s r i).2 (s.take.1 :: N) ∧ Frm (s.newNode i) (Ar.kpush k s r i).1 (s.take.1 :: N) ∧ PushPre k s r i := by
  have hp := Pre.mk_ ho hr
  rcases h.cases with ⟨rfl, h⟩ | ⟨rfl, h⟩ | ⟨rfl, h⟩ | ⟨rfl, h⟩ | ⟨hk, h, h4⟩
  · obtain ⟨a, b, _⟩ := h.push ho ht hi hiN hiI
    exact ⟨a, b.frm, ⟨hp, ht, by omega⟩⟩
  · obtain ⟨a, b, d⟩ := h.push ho ht hi hiN hiI
    exact ⟨a, b.frm, ⟨hp, ht, fun _ => by have := pow_lt (e := 9) d (by omega); omega⟩⟩
  · obtain ⟨a, b⟩ := h.push ho ht hi hiN hiI
    exact ⟨a, b, ⟨hp, ht, by omega⟩⟩
  · obtain ⟨a, b⟩ := h.push ho ht hi hiN hiI
    exact ⟨a, b.frm, ⟨hp, ht, by omega⟩⟩
  · obtain ⟨a, b⟩ := h.push ho ht hi hiN hiI
    obtain ⟨hb, _⟩ := (⟨h, h4⟩ : PHeap s r N ∧ _)
    have hbase : Base s N := by obtain ⟨_, _, hb, _⟩ := h; exact hb
    have hnN := (Base.newNode ho ht hi hiN hiI hbase).2.1
    have e : Ar.kpush k s r i = s.ppush r i := by unfold Ar.kpush; rw [if_neg hk.1, if_neg hk.2.1, if_neg hk.2.2.1, if_neg hk.2.2.2]
    rw [e, kheap5 hk]
    refine ⟨⟨a, fun n hn => ?_⟩, b.frm, ⟨hp, ht, by omega⟩⟩
    unfold Ar.ppush
    rw [plink_f4, Ar.newNode_f ho ht hi, if_neg (fun e => by omega), if_neg (fun e => by omega)]
    rcases List.mem_cons.1 hn with e | hn
    · rw [if_pos e]; rfl
    · rw [if_neg (fun e => by exact hnN (e ▸ hn))]; exact h4 n hn
theorem KHeap.min (hr : r ≠ -1) (h : KHeap k s r N) : ∃ n ∈ N, Ar.kmin k s r = s.f n 6 ∧ ∀ m ∈ N, m ≠ n → lt3 (s.iv n) (s.iv m) := by
  have hb := h.base.1
  rcases h.cases with ⟨rfl, h⟩ | ⟨rfl, h⟩ | ⟨rfl, h⟩ | ⟨rfl, h⟩ | ⟨hk, h, h4⟩
  · obtain ⟨a, b⟩ := h.least hr
    exact ⟨r, a, hb.cell6 a, b⟩
  · obtain ⟨a, b⟩ := h.min hr
    exact ⟨_, a, hb.cell6 a, b⟩
  · obtain ⟨a, b⟩ := h.min hr
    exact ⟨_, a, hb.cell6 a, b⟩
  · obtain ⟨a, b⟩ := h.least hr
    exact ⟨r, a, hb.cell6 a, b⟩
  · obtain ⟨a, b⟩ := h.least hr
    have e : Ar.kmin k s r = s.cell r 6 := by unfold Ar.kmin; rw [if_neg hk.1, if_neg hk.2.1, if_neg hk.2.2.1, if_neg hk.2.2.2]
    rw [e]
    exact ⟨r, a, hb.cell6 a, b⟩
theorem KHeap.pop (ho : s.Ok) (hrb : s.RB 70000) (hn : s.n ≤ 1000) (hl : N.length ≤ 300) (hr : r ≠ -1) (h : KHeap k s r N) :
    ∃ n M, N.Perm (n :: M) ∧ (∀ m ∈ N, m ≠ n → lt3 (s.iv n) (s.iv m)) ∧ KHeap k (Ar.kpop k s r).1 (Ar.kpop k s r).2.1 M ∧ Frm (s.endNode n) (Ar.kpop k s r).1 N ∧ (Ar.kpop k s r).2.2 = s.f n 6 ∧ PopPre k s r ∧ (Ar.kpop k s r).1.f n 4 = s.f n 4 ∧ (Ar.kpop k s r).1.f n 6 = s.f n 6 := by
  have hp := Pre.mk_ ho hrb
  obtain ⟨hb, hd⟩ := h.base
  have hrN := h.rootN hr
  have hhas := hb.has r hrN
  have h0 : (s.tlist r).length ≤ 1000 := by have := s.tlist_le r; omega
  have e4 : ∀ n ∈ N, (s.endNode n).f n 4 = s.f n 4 := fun n hn => by rw [Ar.endNode_f hb hn, if_neg (fun e => by omega)]
  have e6 : ∀ n ∈ N, (s.endNode n).f n 6 = s.f n 6 := fun n hn => by rw [Ar.endNode_f hb hn, if_neg (fun e => by omega)]
  have hnM : ∀ {n : Int} {M : List Int}, N.Perm (n :: M) → n ∉ M := fun hN => (List.nodup_cons.1 (hN.nodup_iff.1 hd)).1
  rcases h.cases with ⟨rfl, g⟩ | ⟨rfl, g⟩ | ⟨rfl, g⟩ | ⟨rfl, g⟩ | ⟨hk, g, h4⟩
  · obtain ⟨a, b⟩ := g.least hr
    have hN := List.perm_cons_erase a
    obtain ⟨c1, c2, c3, _, c5⟩ := g.pop hr hN
    exact ⟨r, _, hN, b, c1, c2.frm, c3, ⟨hp, hhas, h0, by omega, by omega⟩, c5, (c2.hi r 6 (by decide)).trans (e6 r a)⟩
  · obtain ⟨a, b⟩ := g.min hr
    have hN := List.perm_cons_erase a
    obtain ⟨c1, c2, c3, c4, c5⟩ := g.pop hr hN
    refine ⟨_, _, hN, b, c1, c2.frm.up hN hd, c3, ⟨hp, hhas, h0, fun _ => ?_, by omega⟩, ?_⟩
    · have h1 := pow_lt (e := 9) c4 (by omega)
      have h2 := pow_lt (e := 9) c5 (by omega)
      have h3 := idel_le (s.btop r) (s.tlist r)
      rw [List.length_append]; omega
    · show (s.bpop r).1.f _ 4 = _ ∧ (s.bpop r).1.f _ 6 = _
      rw [c2.out _ (hnM hN), e4 _ a, c2.out _ (hnM hN), e6 _ a]
      exact ⟨rfl, rfl⟩
  · obtain ⟨a, b⟩ := g.min hr
    have hN := List.perm_cons_erase a
    obtain ⟨c1, c2, c3, c4, c5, _⟩ := g.pop hr hN
    refine ⟨_, _, hN, b, c1, c2.up hN hd, c3, ⟨hp, hhas, h0, by omega, fun _ => ?_⟩, ?_⟩
    · have h1 := pow_lt (e := 9) c4 (by omega)
      have h2 := pow_lt (e := 9) c5 (by omega)
      have h3 := idel_le (s.btop r) (s.tlist r)
      rw [List.length_append]; omega
    · show (s.spop r).1.f _ 4 = _ ∧ (s.spop r).1.f _ 6 = _
      rw [c2.out _ (hnM hN) 4 (by decide), e4 _ a, c2.out _ (hnM hN) 6 (by decide), e6 _ a]
      exact ⟨rfl, rfl⟩
  · obtain ⟨a, b⟩ := g.least hr
    have hN := List.perm_cons_erase a
    obtain ⟨c1, c2, c3, _, _, c5⟩ := g.pop hr hN
    exact ⟨r, _, hN, b, c1, c2.frm, c3, ⟨hp, hhas, h0, by omega, by omega⟩, c5, (c2.hi r 6 (by decide)).trans (e6 r a)⟩
  · obtain ⟨a, b⟩ := g.least hr
    have hN := List.perm_cons_erase a
    obtain ⟨c1, c2, c3, _⟩ := g.pop hr hN
    have e : Ar.kpop k s r = s.ppop r := by unfold Ar.kpop; rw [if_neg hk.1, if_neg hk.2.1, if_neg hk.2.2.1, if_neg hk.2.2.2]
    have f4 : ∀ x, (s.ppop r).1.f x 4 = s.f x 4 := fun x => by
      unfold Ar.ppop
      rw [paired_f4, Ar.endNode_f hb a, if_neg (fun e => by omega)]
    rw [e]
    exact ⟨r, _, hN, b, (by rw [kheap5 hk]; exact ⟨c1, fun n hn => by rw [f4]; exact h4 n (List.mem_of_mem_erase hn)⟩), c2.frm.up hN hd, c3, ⟨hp, hhas, h0, by omega, by omega⟩, f4 r, (c2.hi r 6 (by decide)).trans (e6 r a)⟩
theorem KHeap.meld (ho : s.Ok) (hrb : s.RB 70000) (hl : N.length ≤ 300) (hl' : M.length ≤ 300) (hd : ∀ x ∈ N, x ∉ M) (hx : ∀ n ∈ N, ∀ m ∈ M, s.f m 6 ≠ n ∧ s.f n 6 ≠ m) (h : KHeap k s r N) (h' : KHeap k s q M) :
    KHeap k (Ar.kmeld k s r q).1 (Ar.kmeld k s r q).2 (N ++ M) ∧ Frm s (Ar.kmeld k s r q).1 (N ++ M) ∧ MeldPre k s r q := by
  have hp := Pre.mk_ ho hrb
  rcases h.cases with ⟨rfl, h⟩ | ⟨rfl, h⟩ | ⟨rfl, h⟩ | ⟨rfl, h⟩ | ⟨hk, h, h4⟩
  · obtain ⟨a, b, _⟩ := h.meld hd hx h'
    exact ⟨a, b.frm, ⟨hp, by omega⟩⟩
  · obtain ⟨a, b, c1, c2⟩ := h.meld hd hx h'
    refine ⟨a, b.frm, ⟨hp, fun _ => ?_⟩⟩
    have h1 := pow_lt (e := 9) c1 (by omega)
    have h2 := pow_lt (e := 9) c2 (by omega)
    rw [List.length_append]; omega
  · obtain ⟨a, b, c1, c2⟩ := h.meld hd hx h'
    refine ⟨a, b.frm, ⟨hp, fun _ => ?_⟩⟩
    have h1 := pow_lt (e := 9) c1 (by omega)
    have h2 := pow_lt (e := 9) c2 (by omega)
    rw [List.length_append]; omega
  · obtain ⟨a, b⟩ := h.meld hd hx h'
    exact ⟨a, b.frm, ⟨hp, by omega⟩⟩
  · rw [kheap5 hk] at h'
    obtain ⟨a, b⟩ := h.meld hd hx h'.1
    have e : Ar.kmeld k s r q = s.plink r q := by unfold Ar.kmeld; rw [if_neg hk.1, if_neg hk.2.1, if_neg hk.2.2.1, if_neg hk.2.2.2]
    rw [e, kheap5 hk]
    refine ⟨⟨a, fun n hn => ?_⟩, b.frm, ⟨hp, by omega⟩⟩
    rw [plink_f4]
    exact (List.mem_append.1 hn).elim (h4 n) (h'.2 n)
end
end Go.Proofs.YtognmhgdegpdiaaGreat
end
section
/- All heaps of one arena. -/
namespace Go.Proofs.YtognmhgdegpdiaaGreat
set_option linter.unusedVariables false
set_option linter.unusedSimpArgs false
structure HP where
  k : Int
  r : Int
  N : List Int
def nodesL (L : List HP) : List Int := L.flatMap HP.N
def totL (s : Ar) (L : List HP) (E : List Int) : List Int := nodesL L ++ ((nodesL L).map (fun n => s.f n 6) ++ E)
structure Heaps (s : Ar) (L : List HP) (E : List Int) : Prop where
  ok : s.Ok
  rb : s.RB 70000
  nd : (totL s L E).Nodup
  tk : ∀ c, s.tk c = true ↔ c ∈ totL s L E
  hp : ∀ h ∈ L, (1 ≤ h.k ∧ h.k ≤ 5) ∧ KHeap h.k s h.r h.N
theorem nodesL_cons (h : HP) (L : List HP) : nodesL (h :: L) = h.N ++ nodesL L := rfl
theorem mem_nodesL {L : List HP} {h : HP} (hh : h ∈ L) {x : Int} (hx : x ∈ h.N) : x ∈ nodesL L := List.mem_flatMap.2 ⟨h, hh, hx⟩
def SB (s s' : Ar) : Prop := s'.steps = s.steps ∧ s'.begun = s.begun
theorem SB.trans {s s' s'' : Ar} (h : SB s s') (k : SB s' s'') : SB s s'' := ⟨k.1.trans h.1, k.2.trans h.2⟩
theorem put_sb (s : Ar) (c k v : Int) : SB s (s.put c k v) := by unfold Ar.put; split <;> exact ⟨rfl, rfl⟩
theorem take_sb (s : Ar) : SB s s.take.2.2 := by
  unfold Ar.take
  split
  · exact ⟨rfl, rfl⟩
  · split <;> exact ⟨rfl, rfl⟩
theorem newNode_sb (s : Ar) (i : Int) : SB s (s.newNode i) := (take_sb s).trans ((put_sb _ _ _ _).trans (put_sb _ _ _ _))
theorem give_sb (s : Ar) (c : Int) : SB s (s.give c).2 := by unfold Ar.give; split <;> exact ⟨rfl, rfl⟩
theorem endNode_sb (s : Ar) (n : Int) : SB s (s.endNode n) := (put_sb _ _ _ _).trans (give_sb _ _)
theorem newItem_sb (s : Ar) (key ser : Int) : SB s (s.newItem key ser) := (take_sb s).trans ((put_sb _ _ _ _).trans (put_sb _ _ _ _))
theorem Frm.sb {s s' : Ar} {N : List Int} (h : Frm s s' N) : SB s s' := by rw [h.eq]; exact ⟨rfl, rfl⟩
section
variable {s s' : Ar} {L L' : List HP} {E E' : List Int} {h g : HP}
theorem totL_perm (hL : L.Perm L') : (totL s L E).Perm (totL s L' E) := by
  unfold totL
  have h1 : (nodesL L).Perm (nodesL L') := hL.flatMap_right _
  exact h1.append ((h1.map _).append_right _)
theorem Heaps.perm (H : Heaps s L E) (hL : L.Perm L') : Heaps s L' E :=
  ⟨H.ok, H.rb, (totL_perm hL).nodup_iff.1 H.nd, fun c => (H.tk c).trans (totL_perm hL).mem_iff, fun h hh => H.hp h (hL.mem_iff.2 hh)⟩
theorem Heaps.len (H : Heaps s L E) : s.count = (totL s L E).length := by
  unfold Ar.count
  rw [List.countP_eq_length_filter]
  have h1 : (((List.range s.never).filter fun c : Nat => s.tk c).map fun c : Nat => (c : Int)).Nodup := by
    rw [List.nodup_iff_pairwise_ne, List.pairwise_map]
    refine ((List.nodup_range (n := s.never)).filter _).imp fun {a b} hab e => hab (by omega)
  have h2 := nodup_sub _ (totL s L E) h1 fun x hx => by
    obtain ⟨c, hc, rfl⟩ := List.mem_map.1 hx
    exact (H.tk c).1 (by simpa using (List.mem_filter.1 hc).2)
  have h3 := nodup_sub (totL s L E) (((List.range s.never).filter fun c : Nat => s.tk c).map fun c : Nat => (c : Int)) H.nd fun x hx => by
    have h4 := (H.tk x).2 hx
    have h5 := H.ok.out x h4
    obtain ⟨c, rfl⟩ := Int.eq_ofNat_of_zero_le h5.1
    exact List.mem_map.2 ⟨c, List.mem_filter.2 ⟨List.mem_range.2 (by omega), by simpa using h4⟩, rfl⟩
  rw [List.length_map] at h2 h3
  omega
theorem totL_len : (totL s L E).length = 2 * (nodesL L).length + E.length := by unfold totL; simp; omega
theorem Heaps.room (H : Heaps s L E) (hn : 2 * (nodesL L).length + E.length < s.n) : s.take.2.1 = true := by
  have h1 := H.len
  rw [totL_len] at h1
  have h2 := H.ok.cnt
  rcases nil_or_snoc s.free with h0 | ⟨fs, c, hfc⟩
  · rw [h0] at h2
    simp at h2
    rw [Ar.take_new h0 (by omega)]
  · rw [Ar.take_free hfc]
theorem Heaps.apart (H : Heaps s L E) : (nodesL L).Nodup ∧ ((nodesL L).map fun n => s.f n 6).Nodup ∧ E.Nodup ∧ (∀ x ∈ nodesL L, ∀ y ∈ nodesL L, s.f y 6 ≠ x) ∧ (∀ x ∈ nodesL L, x ∉ E) ∧ ∀ x ∈ nodesL L, s.f x 6 ∉ E := by
  have h1 := H.nd
  unfold totL at h1
  rw [List.nodup_append, List.nodup_append] at h1
  obtain ⟨a, ⟨b, c, d⟩, e⟩ := h1
  exact ⟨a, b, c, fun x hx y hy h => e x hx _ (List.mem_append.2 (.inl (List.mem_map.2 ⟨y, hy, rfl⟩))) h.symm, fun x hx h => e x hx x (List.mem_append.2 (.inr h)) rfl, fun x hx h => d _ (List.mem_map.2 ⟨x, hx, rfl⟩) _ h rfl⟩
theorem Heaps.has (H : Heaps s L E) {x : Int} (hx : x ∈ totL s L E) : s.has x = true := by rw [H.ok.has]; exact (H.tk x).2 hx
theorem mem_tot_node {x : Int} (hx : x ∈ nodesL L) : x ∈ totL s L E := List.mem_append.2 (.inl hx)
theorem mem_tot_item {x : Int} (hx : x ∈ nodesL L) : s.f x 6 ∈ totL s L E := List.mem_append.2 (.inr (List.mem_append.2 (.inl (List.mem_map.2 ⟨x, hx, rfl⟩))))
theorem mem_tot_e {x : Int} (hx : x ∈ E) : x ∈ totL s L E := List.mem_append.2 (.inr (List.mem_append.2 (.inr hx)))
theorem Heaps.step (H : Heaps s (g :: L) E) (hok : s'.Ok) (hrb : s'.RB 70000) (hs : ∀ h ∈ L, Same s s' h.N) {X : List Int} (hX : (h.N ++ nodesL L ++ (h.N.map (fun n => s'.f n 6) ++ (nodesL L).map (fun n => s.f n 6) ++ E')).Perm X) (hd : X.Nodup) (htk : ∀ c, s'.tk c = true ↔ c ∈ X) (hk : (1 ≤ h.k ∧ h.k ≤ 5) ∧ KHeap h.k s' h.r h.N) : Heaps s' (h :: L) E' := by
  have e6 : (nodesL L).map (fun n => s'.f n 6) = (nodesL L).map (fun n => s.f n 6) := List.map_congr_left fun x hx => by
    obtain ⟨h, hh, hx⟩ := List.mem_flatMap.1 hx
    exact (hs h hh).f x hx 6 (by decide)
  have e : (totL s' (h :: L) E').Perm X := by
    refine List.Perm.trans ?_ hX
    unfold totL
    rw [nodesL_cons, List.map_append, e6]
  refine ⟨hok, hrb, e.nodup_iff.2 hd, fun c => (htk c).trans e.mem_iff.symm, fun f hf => ?_⟩
  rcases List.mem_cons.1 hf with rfl | hf
  · exact hk
  · have := H.hp f (by simp [hf])
    exact ⟨this.1, this.2.same (hs f hf)⟩
theorem Heaps.tick (H : Heaps s L E) (t : Nat) : Heaps (s.tick t) L E :=
  ⟨H.ok.tick t, H.rb, H.nd, H.tk, fun h hh => ⟨(H.hp h hh).1, (H.hp h hh).2.same ⟨fun _ _ => rfl, fun _ _ => rfl, fun _ _ _ _ => rfl, fun _ _ => ⟨rfl, rfl, rfl⟩⟩⟩⟩
theorem Heaps.begin_ (H : Heaps s L E) : Heaps s.begin_ L E := by
  refine ⟨⟨H.ok.nv, H.ok.cnt, H.ok.fr, H.ok.nd, H.ok.out, H.ok.n1, H.ok.nm, Nat.le_refl _, ?_⟩, H.rb, H.nd, H.tk, fun h hh => ⟨(H.hp h hh).1, (H.hp h hh).2.same ⟨fun _ _ => rfl, fun _ _ => rfl, fun _ _ _ _ => rfl, fun _ _ => ⟨rfl, rfl, rfl⟩⟩⟩⟩
  have h1 := H.ok.mo
  have h2 := cap_mono H.ok.bg
  have h3 := cap_in s.steps
  have h4 := cap_in s.begun
  show -9223372036854775808 ≤ s.mostOf ∧ s.mostOf ≤ 9223372036854775807
  unfold Ar.mostOf Ar.spent
  omega
theorem Heaps.none {s : Ar} (hok : s.Ok) (hrb : s.RB 70000) (h : ∀ c, s.tk c = false) : Heaps s [] [] := ⟨hok, hrb, by simp [totL, nodesL], fun c => by simp [totL, nodesL, h c], by simp⟩
theorem Heaps.make (H : Heaps s L E) {k : Int} (hk : 1 ≤ k ∧ k ≤ 5) : Heaps s (⟨k, -1, []⟩ :: L) E :=
  ⟨H.ok, H.rb, H.nd, H.tk, fun h hh => (List.mem_cons.1 hh).elim (fun e => by rw [e]; exact ⟨hk, KHeap.none _ _⟩) (H.hp h)⟩
theorem Heaps.newItem (H : Heaps s L []) (key ser : Int) (ht : s.take.2.1 = true) :
    Heaps (s.newItem key ser) L [s.take.1] ∧ (s.newItem key ser).f s.take.1 7 = key ∧ (s.newItem key ser).f s.take.1 8 = ser ∧ (∀ c, c ≠ s.take.1 → ∀ j, (s.newItem key ser).f c j = s.f c j) ∧ s.take.1 ∉ totL s L [] ∧ (s.newItem key ser).n = s.n := by
  have hl := Ar.take_law H.ok ht
  have hnT : s.take.1 ∉ totL s L [] := fun e => by have := (H.tk _).2 e; rw [hl.tk0] at this; cases this
  have hn1 : s.take.2.2.has s.take.1 = true := Ar.has_iff.2 ⟨hl.n0.1, by rw [hl.n_]; exact hl.n0.2, by rw [hl.tk, updI_same]⟩
  have ef : ∀ c j, (s.newItem key ser).f c j = if c = s.take.1 ∧ j = 8 then ser else if c = s.take.1 ∧ j = 7 then key else updI s.f s.take.1 freshF c j := fun c j => by
    unfold Ar.newItem
    simp only [Ar.put_f, Ar.put_has, hn1, true_and, hl.f]
  have eo : ∀ c, c ≠ s.take.1 → ∀ j, (s.newItem key ser).f c j = s.f c j := fun c hc j => by rw [ef, if_neg (fun e => by exact hc e.1), if_neg (fun e => by exact hc e.1), updI_ne _ _ hc]
  have etk : (s.newItem key ser).tk = updI s.tk s.take.1 true := by unfold Ar.newItem; rw [Ar.put_tk, Ar.put_tk, hl.tk]
  have en : (s.newItem key ser).n = s.n := by unfold Ar.newItem; rw [Ar.put_n, Ar.put_n, hl.n_]
  have hhas : ∀ c, c ≠ s.take.1 → (s.newItem key ser).has c = s.has c := fun c hc => by unfold Ar.has; rw [etk, en, updI_ne _ _ hc]
  have hne : ∀ x ∈ totL s L [], x ≠ s.take.1 := fun x hx e => hnT (e ▸ hx)
  have hsame : ∀ h ∈ L, Same s (s.newItem key ser) h.N := fun h hh => by
    have h1 : ∀ c ∈ h.N, c ≠ s.take.1 := fun c hc => hne c (mem_tot_node (mem_nodesL hh hc))
    have h2 : ∀ c ∈ h.N, s.f c 6 ≠ s.take.1 := fun c hc => hne _ (mem_tot_item (mem_nodesL hh hc))
    exact ⟨fun c hc => hhas c (h1 c hc), fun c hc => hhas _ (h2 c hc), fun c hc j _ => eo c (h1 c hc) j, fun c hc => ⟨eo _ (h2 c hc) 7, eo _ (h2 c hc) 8, eo _ (h2 c hc) 9⟩⟩
  have e6 : (nodesL L).map (fun n => (s.newItem key ser).f n 6) = (nodesL L).map (fun n => s.f n 6) := List.map_congr_left fun x hx => eo x (hne x (mem_tot_node hx)) 6
  have e : (totL (s.newItem key ser) L [s.take.1]).Perm (s.take.1 :: totL s L []) := by
    unfold totL
    rw [e6]
    refine List.perm_iff_count.2 fun a => ?_
    simp only [List.count_append, List.count_cons, List.count_nil]
    omega
  refine ⟨⟨(H.ok.take.put _ _ _).put _ _ _, ((H.rb.take (by decide)).put _ _ _ (by decide)).put _ _ _ (by decide), e.nodup_iff.2 (List.nodup_cons.2 ⟨hnT, H.nd⟩), fun c => ?_, fun h hh => ⟨(H.hp h hh).1, (H.hp h hh).2.same (hsame h hh)⟩⟩, by rw [ef, if_neg (fun e => by omega), if_pos ⟨rfl, rfl⟩], by rw [ef, if_pos ⟨rfl, rfl⟩], eo, hnT, en⟩
  rw [e.mem_iff, etk, List.mem_cons]
  unfold updI
  split
  · rename_i h; simp [h]
  · rename_i h; rw [H.tk]; simp [h]
theorem Frm.same_of {s1 : Ar} {N M : List Int} (hf : Frm s1 s' N) (h1 : ∀ x ∈ M, x ∉ N) (h2 : ∀ x ∈ M, ∀ n ∈ N, s1.f n 6 ≠ s1.f x 6) : Same s1 s' M :=
  ⟨fun c _ => hf.has c, fun c _ => hf.has _, fun c hc j hj => hf.out c (h1 c hc) j (by omega), fun c hc => ⟨(hf.k78 _).1, (hf.k78 _).2, hf.nine _ (h2 c hc)⟩⟩
theorem Same.trans {s1 s2 : Ar} {M : List Int} (h : Same s s1 M) (k : Same s1 s2 M) : Same s s2 M := by
  have e6 : ∀ c ∈ M, s1.f c 6 = s.f c 6 := fun c hc => h.f c hc 6 (by decide)
  refine ⟨fun c hc => (k.hs c hc).trans (h.hs c hc), fun c hc => ?_, fun c hc j hj => (k.f c hc j hj).trans (h.f c hc j hj), fun c hc => ?_⟩
  · have := k.hi c hc; rw [e6 c hc] at this; exact this.trans (h.hi c hc)
  · have h1 := k.i c hc
    have h2 := h.i c hc
    rw [e6 c hc] at h1
    exact ⟨h1.1.trans h2.1, h1.2.1.trans h2.2.1, h1.2.2.trans h2.2.2⟩
theorem Heaps.push {k r i : Int} {N : List Int} (H : Heaps s (⟨k, r, N⟩ :: L) [i]) (ht : s.take.2.1 = true) (hl : N.length ≤ 300) :
    Heaps (Ar.kpush k s r i).1 (⟨k, (Ar.kpush k s r i).2, s.take.1 :: N⟩ :: L) [] ∧ PushPre k s r i ∧ (∀ c, c ≠ s.take.1 → (Ar.kpush k s r i).1.f c 7 = s.f c 7 ∧ (Ar.kpush k s r i).1.f c 8 = s.f c 8) ∧
      ((s.take.1 :: N).map fun n => (Ar.kpush k s r i).1.f n 6).Perm (i :: N.map fun n => s.f n 6) ∧ (∀ x ∈ nodesL L, (Ar.kpush k s r i).1.f x 6 = s.f x 6) ∧ (Ar.kpush k s r i).1.n = s.n ∧ s.take.1 ∉ totL s (⟨k, r, N⟩ :: L) [i] ∧ SB s (Ar.kpush k s r i).1 := by
  obtain ⟨hk, hK⟩ := H.hp ⟨k, r, N⟩ (by simp)
  have hl0 := Ar.take_law H.ok ht
  have hnT : s.take.1 ∉ totL s (⟨k, r, N⟩ :: L) [i] := fun e => by have := (H.tk _).2 e; rw [hl0.tk0] at this; cases this
  obtain ⟨a1, a2, a3, a4, a5, a6⟩ := H.apart
  rw [nodesL_cons] at a1 a2 a4 a5 a6
  have hi : s.has i = true := H.has (mem_tot_e (by simp))
  have hiN : i ∉ N := fun e => a5 i (by simp [e]) (by simp)
  have hiI : ∀ m ∈ N, s.f m 6 ≠ i := fun m hm e => a6 m (by simp [hm]) (by simp [e])
  obtain ⟨b1, b2, b3⟩ := hK.push H.ok H.rb ht hi hiN hiI hl
  have ef := Ar.newNode_f H.ok ht hi
  have hne : ∀ x ∈ totL s (⟨k, r, N⟩ :: L) [i], x ≠ s.take.1 := fun x hx e => hnT (e ▸ hx)
  have eo : ∀ c, c ≠ s.take.1 → ∀ j, j ≠ 9 → (s.newNode i).f c j = s.f c j := fun c hc j hj => by rw [ef, if_neg (fun e => by exact hj e.2), if_neg (fun e => by exact hc e.1), if_neg hc]
  have en6 : (s.newNode i).f s.take.1 6 = i := by rw [ef, if_neg (fun e => by omega), if_pos ⟨rfl, rfl⟩]
  have hnN : ∀ x ∈ N, x ≠ s.take.1 := fun x hx => hne x (mem_tot_node (by rw [nodesL_cons]; simp [hx]))
  have hnL : ∀ x ∈ nodesL L, x ≠ s.take.1 := fun x hx => hne x (mem_tot_node (by rw [nodesL_cons]; simp [hx]))
  have hnI : ∀ x ∈ nodesL L, s.f x 6 ≠ s.take.1 := fun x hx => hne _ (mem_tot_item (by rw [nodesL_cons]; simp [hx]))
  have hhas : ∀ c, c ≠ s.take.1 → (s.newNode i).has c = s.has c := fun c hc => by unfold Ar.has; rw [Ar.newNode_tk H.ok ht, Ar.newNode_n, updI_ne _ _ hc]
  have hit : ((s.take.1 :: N).map fun n => (Ar.kpush k s r i).1.f n 6).Perm (i :: N.map fun n => s.f n 6) := by
    refine b2.it.trans ?_
    rw [List.map_cons, en6, List.map_congr_left fun x hx => eo x (hnN x hx) 6 (by decide)]
  have hs1 : ∀ h ∈ L, Same s (s.newNode i) h.N := fun h hh => by
    have g1 : ∀ c ∈ h.N, c ∈ nodesL L := fun c hc => mem_nodesL hh hc
    refine ⟨fun c hc => hhas c (hnL c (g1 c hc)), fun c hc => hhas _ (hnI c (g1 c hc)), fun c hc j hj => eo c (hnL c (g1 c hc)) j (by omega), fun c hc => ⟨eo _ (hnI c (g1 c hc)) 7 (by decide), eo _ (hnI c (g1 c hc)) 8 (by decide), ?_⟩⟩
    rw [ef, if_neg (fun e => by exact a6 c (by simp [g1 c hc]) (by simp [e.1])), if_neg (fun e => by omega), if_neg (hnI c (g1 c hc))]
  have hdj : ∀ x ∈ nodesL L, x ∉ N := fun x hx e => (List.nodup_append.1 a1).2.2 x e x hx rfl
  have hdi : ∀ x ∈ nodesL L, ∀ n ∈ N, s.f n 6 ≠ s.f x 6 := fun x hx n hn e => by
    rw [List.map_append, List.nodup_append] at a2
    exact a2.2.2 _ (List.mem_map.2 ⟨n, hn, rfl⟩) _ (List.mem_map.2 ⟨x, hx, rfl⟩) e
  have hs : ∀ h ∈ L, Same s (Ar.kpush k s r i).1 h.N := fun h hh => by
    have g1 : ∀ c ∈ h.N, c ∈ nodesL L := fun c hc => mem_nodesL hh hc
    refine (hs1 h hh).trans (b2.same_of (fun x hx e => ?_) fun x hx n hn => ?_)
    · rcases List.mem_cons.1 e with e | e
      · exact hnL x (g1 x hx) e
      · exact hdj x (g1 x hx) e
    · rw [eo x (hnL x (g1 x hx)) 6 (by decide)]
      rcases List.mem_cons.1 hn with e | hn
      · rw [e, en6]; exact fun e => a6 x (by simp [g1 x hx]) (by simp [e])
      · rw [eo n (hnN n hn) 6 (by decide)]; exact hdi x (g1 x hx) n hn
  have hrb1 : (s.newNode i).RB 70000 := H.rb.newNode (by decide) i
  have hok1 : (s.newNode i).Ok := H.ok.newNode i
  refine ⟨H.step (b2.ok hok1) (b2.rb hrb1 fun n hn => b1.rank_in (b2.ok hok1) hn) hs (X := s.take.1 :: totL s (⟨k, r, N⟩ :: L) [i]) ?_ (List.nodup_cons.2 ⟨hnT, H.nd⟩) (fun c => ?_) ⟨hk, b1⟩, b3, fun c hc => ⟨(b2.k78 c).1.trans (eo c hc 7 (by decide)), (b2.k78 c).2.trans (eo c hc 8 (by decide))⟩, hit, fun x hx => ?_, b2.n_.trans (Ar.newNode_n s i), hnT, (newNode_sb s i).trans b2.sb⟩
  · unfold totL
    rw [nodesL_cons]
    refine List.perm_iff_count.2 fun a => ?_
    have h1 := List.perm_iff_count.1 hit a
    simp only [List.map_cons, List.map_append, List.count_append, List.count_cons, List.count_nil] at h1 ⊢
    omega
  · rw [b2.tk, Ar.newNode_tk H.ok ht, List.mem_cons]
    unfold updI
    split
    · rename_i h; simp [h]
    · rename_i h; rw [H.tk]; simp [h]
  · obtain ⟨h, hh, hx⟩ := List.mem_flatMap.1 hx
    exact (hs h hh).f x hx 6 (by decide)
theorem Heaps.pop {k r : Int} {N : List Int} (H : Heaps s (⟨k, r, N⟩ :: L) []) (hn : s.n ≤ 1000) (hl : N.length ≤ 300) (hr : r ≠ -1) :
    ∃ n M, N.Perm (n :: M) ∧ (∀ m ∈ N, m ≠ n → lt3 (s.iv n) (s.iv m)) ∧ (Ar.kpop k s r).2.2 = s.f n 6 ∧ PopPre k s r ∧ Heaps (Ar.kpop k s r).1 (⟨k, (Ar.kpop k s r).2.1, M⟩ :: L) [s.f n 6] ∧ (∀ c, (Ar.kpop k s r).1.f c 7 = s.f c 7 ∧ (Ar.kpop k s r).1.f c 8 = s.f c 8) ∧
      (M.map fun n => (Ar.kpop k s r).1.f n 6).Perm (M.map fun n => s.f n 6) ∧ (∀ x ∈ nodesL L, (Ar.kpop k s r).1.f x 6 = s.f x 6) ∧ (Ar.kpop k s r).1.n = s.n ∧ SB s (Ar.kpop k s r).1 := by
  obtain ⟨hk, hK⟩ := H.hp ⟨k, r, N⟩ (by simp)
  obtain ⟨hb, hd⟩ := hK.base
  obtain ⟨n, M, b1, b2, b3, b4, b5, b6, b7⟩ := hK.pop H.ok H.rb hn hl hr
  simp only at hb hd b1 b2 b3 b4 b5 b6 b7
  refine ⟨n, M, b1, b2, b5, b6, ?_⟩
  obtain ⟨a1, a2, a3, a4, a5, a6⟩ := H.apart
  rw [nodesL_cons] at a1 a2 a4 a5 a6
  have hnN : n ∈ N := b1.mem_iff.2 (by simp)
  have hnM := (List.nodup_cons.1 (b1.nodup_iff.1 hd)).1
  have ef := Ar.endNode_f hb hnN
  have eo : ∀ c j, j ≠ 9 → (s.endNode n).f c j = s.f c j := fun c j hj => by rw [ef, if_neg (fun e => by exact hj e.2)]
  have hdj : ∀ x ∈ nodesL L, x ∉ N := fun x hx e => (List.nodup_append.1 a1).2.2 x e x hx rfl
  have hdi : ∀ x ∈ nodesL L, ∀ n ∈ N, s.f n 6 ≠ s.f x 6 := fun x hx n hn e => by
    rw [List.map_append, List.nodup_append] at a2
    exact a2.2.2 _ (List.mem_map.2 ⟨n, hn, rfl⟩) _ (List.mem_map.2 ⟨x, hx, rfl⟩) e
  have e6N : N.map (fun n => (s.endNode n).f n 6) = N.map (fun n => s.f n 6) := List.map_congr_left fun x hx => by
    rw [Ar.endNode_f hb hx, if_neg (fun e => by omega)]
  have hs : ∀ h ∈ L, Same s (Ar.kpop k s r).1 h.N := fun h hh => by
    have g1 : ∀ c ∈ h.N, c ∈ nodesL L := fun c hc => mem_nodesL hh hc
    have g2 : ∀ c ∈ h.N, c ≠ n := fun c hc e => hdj c (g1 c hc) (e ▸ hnN)
    refine Same.trans (s1 := s.endNode n) ⟨fun c hc => Ar.endNode_has hb hnN c (g2 c hc), fun c hc => Ar.endNode_has hb hnN _ (a4 n (by simp [hnN]) c (by simp [g1 c hc])), fun c hc j hj => eo c j (by omega), fun c hc => ⟨eo _ 7 (by decide), eo _ 8 (by decide), ?_⟩⟩ (b4.same_of (fun x hx => hdj x (g1 x hx)) fun x hx m hm => ?_)
    · rw [ef, if_neg (fun e => by exact hdi c (g1 c hc) n hnN e.1.symm)]
    · rw [eo m 6 (by decide), eo x 6 (by decide)]; exact hdi x (g1 x hx) m hm
  -- what the others' items are
  have hM6 : (M.map fun n => (Ar.kpop k s r).1.f n 6).Perm (M.map fun n => s.f n 6) := by
    have h1 : (N.map fun m => (Ar.kpop k s r).1.f m 6).Perm (N.map fun m => s.f m 6) := by
      refine b4.it.trans ?_
      rw [List.map_congr_left fun x _ => eo x 6 (by decide)]
    have h2 := (b1.map fun m => (Ar.kpop k s r).1.f m 6).symm.trans (h1.trans (b1.map fun m => s.f m 6))
    have h3 : (Ar.kpop k s r).1.f n 6 = s.f n 6 := b7.2
    simp only [List.map_cons] at h2
    rw [h3] at h2
    exact h2.cons_inv
  have hrb1 : (s.endNode n).RB 70000 := H.rb.endNode n
  have hok1 : (s.endNode n).Ok := H.ok.endNode n
  have htot : (totL s (⟨k, r, N⟩ :: L) []).Perm (n :: (M ++ nodesL L ++ (M.map (fun n => (Ar.kpop k s r).1.f n 6) ++ (nodesL L).map (fun n => s.f n 6) ++ [s.f n 6]))) := by
    unfold totL
    rw [nodesL_cons]
    refine List.perm_iff_count.2 fun a => ?_
    have h1 := List.perm_iff_count.1 hM6 a
    have h2 := List.perm_iff_count.1 b1 a
    have h3 := List.perm_iff_count.1 (b1.map fun n => s.f n 6) a
    simp only [List.map_cons, List.map_append, List.count_append, List.count_cons, List.count_nil] at h1 h2 h3 ⊢
    omega
  have hnd := htot.nodup_iff.1 H.nd
  rw [List.nodup_cons] at hnd
  refine ⟨H.step (b4.ok hok1) (b4.rb hrb1 fun m hm => ?_) hs (h := ⟨k, (Ar.kpop k s r).2.1, M⟩) (List.Perm.refl _) hnd.2 (fun c => ?_) ⟨hk, b3⟩, fun c => ⟨(b4.k78 c).1.trans (eo c 7 (by decide)), (b4.k78 c).2.trans (eo c 8 (by decide))⟩, hM6, fun x hx => ?_, b4.n_.trans (Ar.endNode_n s n), (endNode_sb s n).trans b4.sb⟩
  · rcases List.mem_cons.1 (b1.mem_iff.1 hm) with e | e
    · rw [e, b7.1]; have := H.rb n; omega
    · exact b3.rank_in (b4.ok hok1) e
  · rw [b4.tk, Ar.endNode_tk hb hnN]
    have h1 := (H.tk c).trans htot.mem_iff
    unfold updI
    split
    · rename_i h
      rw [h]
      exact ⟨fun e => (by cases e), fun e => absurd e hnd.1⟩
    · rename_i h
      rw [h1, List.mem_cons]
      exact ⟨fun e => e.resolve_left h, .inr⟩
  · obtain ⟨h, hh, hx⟩ := List.mem_flatMap.1 hx
    exact (hs h hh).f x hx 6 (by decide)
theorem Heaps.give {i : Int} (H : Heaps s L [i]) : Heaps (s.give i).2 L [] ∧ (s.give i).1 = true ∧ (∀ c j, (s.give i).2.f c j = s.f c j) ∧ (s.give i).2.n = s.n := by
  have hi : s.has i = true := H.has (mem_tot_e (by simp))
  obtain ⟨a1, a2, a3, a4, a5, a6⟩ := H.apart
  have e : s.give i = (true, { s with tk := updI s.tk i false, free := s.free ++ [i] }) := by unfold Ar.give; rw [if_pos hi]
  have hok := H.ok.give i
  rw [e] at hok ⊢
  have hhas : ∀ c, c ≠ i → ({ s with tk := updI s.tk i false, free := s.free ++ [i] } : Ar).has c = s.has c := fun c hc => by unfold Ar.has; simp only [updI_ne _ _ hc]
  have ht : (totL s L [i]).Perm (i :: totL s L []) := by
    unfold totL
    refine List.perm_iff_count.2 fun a => ?_
    simp only [List.count_append, List.count_cons, List.count_nil]
    omega
  have hnd := ht.nodup_iff.1 H.nd
  rw [List.nodup_cons] at hnd
  refine ⟨⟨hok, H.rb, hnd.2, fun c => ?_, fun h hh => ⟨(H.hp h hh).1, (H.hp h hh).2.same ⟨fun c hc => hhas c fun e => a5 c (mem_nodesL hh hc) (by simp [e]), fun c hc => hhas _ fun e => a6 c (mem_nodesL hh hc) (by simp [e]), fun _ _ _ _ => rfl, fun _ _ => ⟨rfl, rfl, rfl⟩⟩⟩⟩, rfl, fun _ _ => rfl, rfl⟩
  show updI s.tk i false c = true ↔ c ∈ totL s L []
  unfold updI
  split
  · rename_i h
    rw [h]
    exact ⟨fun e => (by cases e), fun e => absurd e hnd.1⟩
  · rename_i h
    rw [H.tk, ht.mem_iff, List.mem_cons]
    exact ⟨fun e => e.resolve_left h, .inr⟩
theorem Heaps.meld {k r q : Int} {N M : List Int} (H : Heaps s (⟨k, r, N⟩ :: ⟨k, q, M⟩ :: L) []) (hl : N.length ≤ 300) (hl' : M.length ≤ 300) :
    Heaps (Ar.kmeld k s r q).1 (⟨k, (Ar.kmeld k s r q).2, N ++ M⟩ :: L) [] ∧ MeldPre k s r q ∧ (∀ c, (Ar.kmeld k s r q).1.f c 7 = s.f c 7 ∧ (Ar.kmeld k s r q).1.f c 8 = s.f c 8) ∧
      ((N ++ M).map fun n => (Ar.kmeld k s r q).1.f n 6).Perm ((N ++ M).map fun n => s.f n 6) ∧ (∀ x ∈ nodesL L, (Ar.kmeld k s r q).1.f x 6 = s.f x 6) ∧ (Ar.kmeld k s r q).1.n = s.n ∧ SB s (Ar.kmeld k s r q).1 := by
  obtain ⟨hk, hK⟩ := H.hp ⟨k, r, N⟩ (by simp)
  obtain ⟨_, hK'⟩ := H.hp ⟨k, q, M⟩ (by simp)
  obtain ⟨a1, a2, a3, a4, a5, a6⟩ := H.apart
  rw [nodesL_cons, nodesL_cons] at a1 a2 a4 a5 a6
  have hNM : ∀ x ∈ N, x ∉ M := fun x hx e => (List.nodup_append.1 a1).2.2 x hx x (by simp [e]) rfl
  obtain ⟨b1, b2, b3⟩ := hK.meld H.ok H.rb hl hl' hNM (fun n hn m hm => ⟨a4 n (by simp [hn]) m (by simp [hm]), a4 m (by simp [hm]) n (by simp [hn])⟩) hK'
  simp only at b1 b2 b3
  have hdj : ∀ x ∈ nodesL L, x ∉ N ++ M := fun x hx e => by
    rw [← List.append_assoc] at a1
    exact (List.nodup_append.1 a1).2.2 x e x hx rfl
  have hdi : ∀ x ∈ nodesL L, ∀ n ∈ N ++ M, s.f n 6 ≠ s.f x 6 := fun x hx n hn e => by
    rw [← List.append_assoc, List.map_append, List.nodup_append] at a2
    exact a2.2.2 _ (List.mem_map.2 ⟨n, hn, rfl⟩) _ (List.mem_map.2 ⟨x, hx, rfl⟩) e
  have hs : ∀ h ∈ L, Same s (Ar.kmeld k s r q).1 h.N := fun h hh => b2.same_of (fun x hx => hdj x (mem_nodesL hh hx)) fun x hx => hdi x (mem_nodesL hh hx)
  have H' : Heaps s (⟨k, q, M⟩ :: L) (N ++ N.map fun n => s.f n 6) := by
    have e : (totL s (⟨k, r, N⟩ :: ⟨k, q, M⟩ :: L) []).Perm (totL s (⟨k, q, M⟩ :: L) (N ++ N.map fun n => s.f n 6)) := by
      unfold totL
      simp only [nodesL_cons, List.map_append]
      refine List.perm_iff_count.2 fun a => ?_
      simp only [List.count_append, List.count_nil]
      omega
    exact ⟨H.ok, H.rb, e.nodup_iff.1 H.nd, fun c => (H.tk c).trans e.mem_iff, fun h hh => H.hp h (by simp [List.mem_cons.1 hh])⟩
  refine ⟨H'.step (b2.ok H.ok) (b2.rb H.rb fun n hn => b1.rank_in (b2.ok H.ok) hn) hs (h := ⟨k, (Ar.kmeld k s r q).2, N ++ M⟩) (X := totL s (⟨k, r, N⟩ :: ⟨k, q, M⟩ :: L) []) ?_ H.nd (fun c => by rw [b2.tk]; exact H.tk c) ⟨hk, b1⟩, b3, b2.k78, b2.it, fun x hx => ?_, b2.n_, b2.sb⟩
  · unfold totL
    simp only [nodesL_cons, List.map_append]
    refine List.perm_iff_count.2 fun a => ?_
    have h1 := List.perm_iff_count.1 b2.it a
    simp only [List.map_append, List.count_append, List.count_nil] at h1 ⊢
    omega
  · obtain ⟨h, hh, hx⟩ := List.mem_flatMap.1 hx
    exact (hs h hh).f x hx 6 (by decide)
end
end Go.Proofs.YtognmhgdegpdiaaGreat
end
