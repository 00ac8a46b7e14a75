import Derived.Test.YtognmhgdegpdiaaGreatHpTQ
section
/- Forests whose one node's item has fallen, or goes. -/
namespace Go.Proofs.YtognmhgdegpdiaaGreat
set_option linter.unusedVariables false
set_option linter.unusedSimpArgs false
def le3 (a b : V3i) : Prop := a = b ∨ lt3 a b
theorem le3_lt {a b c : V3i} (h : le3 a b) (k : lt3 b c) : lt3 a c := by rcases h with rfl | h; exact k; exact lt3_trans h k
structure Low (v0 v : Int → V3i) (N : List Int) (n : Int) : Prop where
  eq : ∀ x ∈ N, x ≠ n → v x = v0 x
  le : le3 (v n) (v0 n)
structure Hole (v : Int → V3i) (N : List Int) (k : Int → List Int) (n : Int) : Prop where
  ord : ∀ x ∈ N, x ≠ n → ∀ m ∈ k x, m ≠ n → lt3 (v x) (v m)
  skip : ∀ x ∈ N, n ∈ k x → ∀ c ∈ k n, lt3 (v x) (v c)
section
variable {v0 v v' : Int → V3i} {R Q N M : List Int} {k : Int → List Int} {n m p : Int}
theorem Hole.start (hf : Forest v0 R N k) (hn : n ∈ N) (h : ∀ x ∈ N, x ≠ n → v x = v0 x) : Hole v N k n := by
  refine ⟨fun x hx hxn m hm hmn => ?_, fun x hx hnx c hc => ?_⟩
  · rw [h x hx hxn, h m (hf.kid hx hm) hmn]; exact hf.ord x hx m hm
  · have h1 := hf.ord x hx n hnx
    have h2 := hf.ord n hn c hc
    have hxn : x ≠ n := fun e => by rw [e] at h1; exact lt3_irrefl _ h1
    have hcn : c ≠ n := fun e => by rw [e] at h2; exact lt3_irrefl _ h2
    rw [h x hx hxn, h c (hf.kid hn hc) hcn]
    exact lt3_trans h1 h2
theorem Low.out (hf : Forest v0 R N k) (hn : n ∈ N) (h : Low v0 v N n) : ∀ c ∈ k n, lt3 (v n) (v c) := fun c hc => by
  have h2 := hf.ord n hn c hc
  have hcn : c ≠ n := fun e => by rw [e] at h2; exact lt3_irrefl _ h2
  rw [h.eq c (hf.kid hn hc) hcn]
  exact le3_lt h.le h2
theorem Hole.swap (hf : Forest v0 R N k) (h : Hole v N k n) (hn : n ∈ N) (hp : p ∈ N) (hpn : n ∈ k p) (h1 : v' n = v p) (h2 : v' p = v n) (h3 : ∀ x ∈ N, x ≠ n → x ≠ p → v' x = v x) : Hole v' N k p := by
  have hpp := hf.self hp
  have hnn := hf.self hn
  have hne : p ≠ n := fun e => hpp (e ▸ hpn)
  refine ⟨fun x hx hxp m hm hmp => ?_, fun x hx hpx c hc => ?_⟩
  · have hmN := hf.kid hx hm
    by_cases hxn : x = n
    · subst hxn
      have hmn : m ≠ x := fun e => hnn (e ▸ hm)
      rw [h1, h3 m hmN hmn hmp]
      exact h.skip p hp hpn m hm
    · have hmn : m ≠ n := fun e => hxp (hf.once hx hp (e ▸ hm) hpn)
      rw [h3 x hx hxn hxp, h3 m hmN hmn hmp]
      exact h.ord x hx hxn m hm hmn
  · have hxp : x ≠ p := fun e => hpp (e ▸ hpx)
    have hxn : x ≠ n := fun e => by
      subst e
      exact lt3_irrefl _ (h.skip p hp hpn p hpx)
    have h4 : lt3 (v x) (v p) := h.ord x hx hxn p hpx hne
    rw [h3 x hx hxn hxp]
    by_cases hcn : c = n
    · rw [hcn, h1]; exact h4
    · have hcp : c ≠ p := fun e => hpp (e ▸ hc)
      rw [h3 c (hf.kid hp hc) hcn hcp]
      exact lt3_trans h4 (h.ord p hp hne c hc hcn)
theorem Hole.swap_out (hf : Forest v0 R N k) (h : Hole v N k n) (hn : n ∈ N) (hp : p ∈ N) (hpn : n ∈ k p) (h1 : v' n = v p) (h2 : v' p = v n) (h3 : ∀ x ∈ N, x ≠ n → x ≠ p → v' x = v x) (hlt : lt3 (v n) (v p)) : ∀ c ∈ k p, lt3 (v' p) (v' c) := fun c hc => by
  have hpp := hf.self hp
  have hne : p ≠ n := fun e => hpp (e ▸ hpn)
  rw [h2]
  by_cases hcn : c = n
  · rw [hcn, h1]; exact hlt
  · rw [h3 c (hf.kid hp hc) hcn fun e => hpp (e ▸ hc)]
    exact lt3_trans hlt (h.ord p hp hne c hc hcn)
theorem Hole.close (hf : Forest v0 R N k) (h : Hole v N k n) (hi : ∀ x ∈ N, ∀ y ∈ N, v x = v y → x = y) (ho : ∀ c ∈ k n, lt3 (v n) (v c)) (hin : ∀ x ∈ N, n ∈ k x → lt3 (v x) (v n)) : Forest v R N k := by
  refine ⟨hf.perm, hf.nd, hi, fun x hx m hm => ?_⟩
  by_cases hxn : x = n
  · subst hxn; exact ho m hm
  · by_cases hmn : m = n
    · subst hmn; exact hin x hx hm
    · exact h.ord x hx hxn m hm hmn
theorem Hole.drop (hf : Forest v0 R N k) (h : Hole v N k n) (hi : ∀ x ∈ N, ∀ y ∈ N, v x = v y → x = y) (hR : R.Perm (n :: Q)) (hN : N.Perm (n :: M)) : Forest v (k n ++ Q) M k := by
  have h1 := hf.drop hR hN
  have hs : ∀ x, x ∈ M → x ∈ N := fun x hx => hN.mem_iff.2 (by simp [hx])
  have hd := hN.nodup_iff.1 hf.nd
  rw [List.nodup_cons] at hd
  refine ⟨h1.perm, h1.nd, fun x hx y hy => hi x (hs x hx) y (hs y hy), fun x hx m hm => h.ord x (hs x hx) (fun e => hd.1 (e ▸ hx)) m hm fun e => ?_⟩
  exact hf.notkid (hR.mem_iff.2 (by simp)) (hs x hx) (e ▸ hm)
theorem Forest.low (hf : Forest v0 R N k) (hn : n ∈ R) (h : Low v0 v N n) (hi : ∀ x ∈ N, ∀ y ∈ N, v x = v y → x = y) : Forest v R N k :=
  Hole.close hf (Hole.start hf (hf.root hn) h.eq) hi (h.out hf (hf.root hn)) fun x hx e => absurd e (hf.notkid hn hx)
theorem Forest.low_in (hf : Forest v0 R N k) (hp : p ∈ N) (hn : n ∈ k p) (h : Low v0 v N n) (hi : ∀ x ∈ N, ∀ y ∈ N, v x = v y → x = y) (hlt : lt3 (v p) (v n)) : Forest v R N k := by
  have hnN := hf.kid hp hn
  exact Hole.close hf (Hole.start hf hnN h.eq) hi (h.out hf hnN) fun x hx e => by rw [hf.once hx hp e hn]; exact hlt
end
theorem lower_f (s : Ar) {i : Int} (hi : s.has i = true) (key : Int) (c j : Int) : (s.put i 7 key).f c j = if c = i ∧ j = 7 then key else s.f c j := by
  rw [Ar.put_f]; simp only [hi, true_and]
section
variable {s : Ar} {N : List Int} {n key : Int}
theorem Base.lower (h : Base s N) (hn : n ∈ N) (hk : key ≤ s.f (s.f n 6) 7) : Base (s.put (s.f n 6) 7 key) N ∧ Low s.iv (s.put (s.f n 6) 7 key).iv N n ∧ (∀ c j, j ≠ 7 → (s.put (s.f n 6) 7 key).f c j = s.f c j) ∧ ∀ c, (s.put (s.f n 6) 7 key).has c = s.has c := by
  have ef := lower_f s (h.it n hn) key
  have eo : ∀ c j, j ≠ 7 → (s.put (s.f n 6) 7 key).f c j = s.f c j := fun c j hj => by rw [ef, if_neg (fun e => by exact hj e.2)]
  have eh : ∀ c, (s.put (s.f n 6) 7 key).has c = s.has c := fun c => Ar.put_has _ _ _ _ _
  refine ⟨⟨fun x hx => by rw [eh]; exact h.has x hx, fun x hx => by rw [eh, eo x 6 (by decide)]; exact h.it x hx, fun x hx => by rw [eo x 6 (by decide), eo _ 9 (by decide)]; exact h.bk x hx, fun x hx y hy => by rw [eo y 6 (by decide)]; exact h.di x hx y hy⟩, ⟨fun x hx hxn => ?_, ?_⟩, eo, eh⟩
  · unfold Ar.iv
    rw [eo x 6 (by decide), eo _ 8 (by decide), ef, if_neg (fun e => by exact hxn (h.inj6 hx hn e.1))]
  · have h1 : (s.put (s.f n 6) 7 key).iv n = (key, s.f (s.f n 6) 8, s.f n 6) := by
      unfold Ar.iv
      rw [eo n 6 (by decide), eo _ 8 (by decide), ef, if_pos ⟨rfl, rfl⟩]
    rw [h1]
    by_cases e : key = s.f (s.f n 6) 7
    · exact .inl (by unfold Ar.iv; rw [e])
    · exact .inr (.inl (by show key < s.f (s.f n 6) 7; omega))
end
theorem Forest.split {v : Int → V3i} {k : Int → List Int} : ∀ (f : Nat) (N R1 R2 : List Int), N.length ≤ f → Forest v (R1 ++ R2) N k → ∃ N1 N2, N.Perm (N1 ++ N2) ∧ Forest v R1 N1 k ∧ Forest v R2 N2 k
  | _, N, [], R2, _, h => ⟨[], N, by simp, Forest.nil _ _, h⟩
  | 0, N, n :: R1, R2, hl, h => by
    have := h.root (by simp : n ∈ n :: R1 ++ R2)
    have : N = [] := List.length_eq_zero_iff.1 (by omega)
    subst this
    simp at *
  | f + 1, N, n :: R1, R2, hl, h => by
    have hn := h.root (by simp : n ∈ n :: R1 ++ R2)
    have hN := List.perm_cons_erase hn
    have h1 := h.drop (List.Perm.refl (n :: (R1 ++ R2))) hN
    have hle : (N.erase n).length ≤ f := by have := hN.length_eq; rw [List.length_cons] at this; omega
    obtain ⟨N1, N2, a, b, c⟩ := Forest.split f (N.erase n) (k n ++ R1) R2 hle (by rw [List.append_assoc]; exact h1)
    have hp : N.Perm (n :: N1 ++ N2) := hN.trans (List.Perm.cons _ a)
    have hnd := hp.nodup_iff.1 h.nd
    rw [List.nodup_append] at hnd
    have hs : ∀ x ∈ n :: N1, x ∈ N := fun x hx => hp.mem_iff.2 (List.mem_append.2 (.inl hx))
    refine ⟨n :: N1, N2, hp, ⟨?_, hnd.1, fun x hx y hy => h.inj x (hs x hx) y (hs y hy), fun x hx => h.ord x (hs x hx)⟩, c⟩
    have h2 := b.perm
    refine List.perm_iff_count.2 fun e => ?_
    have h3 := List.perm_iff_count.1 h2 e
    simp only [List.count_append, List.count_cons, List.flatMap_cons] at h3 ⊢
    omega
theorem Forest.where_ {v : Int → V3i} {R N : List Int} {k : Int → List Int} {n : Int} (h : Forest v R N k) (hn : n ∈ N) : n ∈ R ∨ ∃ p ∈ N, n ∈ k p := by
  rcases List.mem_append.1 (h.perm.mem_iff.2 hn) with h1 | h1
  · exact .inl h1
  · obtain ⟨p, hp, hk⟩ := List.mem_flatMap.1 h1
    exact .inr ⟨p, hp, hk⟩
theorem Forest.turnK {v : Int → V3i} {R N l : List Int} {k : Int → List Int} {n : Int} (h : Forest v R N k) (hn : n ∈ N) (hl : l.Perm (k n)) : Forest v R N (updI k n l) := by
  refine ⟨List.perm_iff_count.2 fun a => ?_, h.nd, h.inj, fun x hx y hy => ?_⟩
  · have h1 := h.cnt a
    have h2 := flat_upd (k := k) (l := l) h.nd hn a
    have h4 := List.perm_iff_count.1 hl a
    rw [List.count_append]
    omega
  · by_cases hxn : x = n
    · subst hxn
      rw [updI_same] at hy
      exact h.ord _ hx _ (hl.mem_iff.1 hy)
    · rw [updI_ne _ _ hxn] at hy
      exact h.ord _ hx _ hy
theorem mem_split {N1 N2 N : List Int} (h : N.Perm (N1 ++ N2)) : (∀ x ∈ N1, x ∈ N) ∧ (∀ x ∈ N2, x ∈ N) := ⟨fun x hx => h.mem_iff.2 (by simp [hx]), fun x hx => h.mem_iff.2 (by simp [hx])⟩
end Go.Proofs.YtognmhgdegpdiaaGreat
end
section
/- Leftist heaps: a node leaves its place. -/
namespace Go.Proofs.YtognmhgdegpdiaaGreat
set_option linter.unusedVariables false
set_option linter.unusedSimpArgs false
def Ar.lup : Nat → Ar → Int → Ar
  | 0, s, _ => s
  | f + 1, s, p => if p = -1 then s else if (s.lfix p).1 = true then Ar.lup f (s.lfix p).2 ((s.lfix p).2.cell p 0) else (s.lfix p).2
def Ar.lunl (s : Ar) (n : Int) : Ar := if s.cell (s.cell n 0) 2 = n then s.put (s.cell n 0) 2 (-1) else if s.cell (s.cell n 0) 3 = n then s.put (s.cell n 0) 3 (-1) else s
def Ar.lleave (s : Ar) (n : Int) : Ar := Ar.lup (s.n + 1) ((s.lunl n).put n 0 (-1)) (s.cell n 0)
def Ar.lfall (s : Ar) (r i : Int) : Ar × Int := if s.cell i 9 = -1 ∨ s.cell i 9 = r ∨ s.cell (s.cell i 9) 0 = -1 then (s, r) else (s.lleave (s.cell i 9)).lmeld r (s.cell i 9)
def Ar.lcut (s : Ar) (r i : Int) : Ar × Int := if s.cell i 9 = -1 then (s, r) else if s.cell i 9 = r ∨ s.cell (s.cell i 9) 0 = -1 then ((s.lpop (s.cell i 9)).1, (s.lpop (s.cell i 9)).2.1)
  else ((s.lleave (s.cell i 9)).lpop (s.cell i 9)).1.lmeld r ((s.lleave (s.cell i 9)).lpop (s.cell i 9)).2.1
structure LBrk (s : Ar) (N : List Int) (k : Int → List Int) (p : Int) : Prop where
  cl : ∀ n ∈ N, n ≠ p → k n = rl (s.f n 2) ++ rl (s.f n 3) ∧ s.lrank (s.f n 3) ≤ s.lrank (s.f n 2) ∧ s.f n 4 = s.lrank (s.f n 3) + 1 ∧ 1 ≤ s.f n 4
  bk : p ∈ N → k p = rl (s.f p 2) ++ rl (s.f p 3)
  up : ∀ n ∈ N, ∀ m ∈ k n, s.f m 0 = n
section
variable {s : Ar} {v : Int → V3i} {R Q N M : List Int} {k : Int → List Int} {x n m p r i key : Int}
theorem lup_law {N : List Int} : ∀ (f : Nat) (s : Ar) (p : Int) (k : Int → List Int) (A : List Int), Forest v R N k → Base s N → LBrk s N k p → (∀ x ∈ R, s.f x 0 = -1) → (p = -1 ∨ p ∈ N) → A.Nodup → (∀ a ∈ A, a ∈ N ∧ (p = -1 ∨ lt3 (v p) (v a))) → N.length + 1 ≤ A.length + f →
    ∃ k', Str s (Ar.lup f s p) N ∧ Forest v R N k' ∧ LMem (Ar.lup f s p) N k' [] ∧ ∀ y, (Ar.lup f s p).f y 0 = s.f y 0 := by
  intro f
  induction f with
  | zero =>
    intro s p k A hf hb hm hr hp hd hA hl
    have := nodup_sub A N hd fun a ha => (hA a ha).1
    omega
  | succ f ih =>
    intro s p k A hf hb hm hr hp hd hA hl
    unfold Ar.lup
    by_cases hp1 : p = -1
    · rw [if_pos hp1]
      refine ⟨k, Str.refl _ _, hf, ⟨fun n hn _ => hm.cl n hn fun e => hb.ne hn (e.trans hp1), fun n _ h => (by cases h), hm.up⟩, fun _ => rfl⟩
    · rw [if_neg hp1]
      have hpN := hp.resolve_left hp1
      have hk := hm.bk hpN
      have hpp := hf.self hpN
      have hl2 : s.f p 2 = -1 ∨ s.f p 2 ∈ k p := by
        by_cases e : s.f p 2 = -1
        · exact .inl e
        · exact .inr (by rw [hk]; exact List.mem_append.2 (.inl (mem_rl.2 ⟨rfl, e⟩)))
      have hl3 : s.f p 3 = -1 ∨ s.f p 3 ∈ k p := by
        by_cases e : s.f p 3 = -1
        · exact .inl e
        · exact .inr (by rw [hk]; exact List.mem_append.2 (.inr (mem_rl.2 ⟨rfl, e⟩)))
      have c2 : s.cell p 2 = s.f p 2 := hb.cell hpN (hl2.imp id (hf.kid hpN))
      have c3 : s.cell p 3 = s.f p 3 := hb.cell hpN (hl3.imp id (hf.kid hpN))
      have hrk : ∀ c, c = -1 ∨ c ∈ k p → 0 ≤ s.lrank c ∧ c ≠ p := fun c h => by
        rcases h with e | e
        · rw [e]; exact ⟨Int.le_refl 0, fun e => hb.ne hpN e.symm⟩
        · have hcp : c ≠ p := fun e2 => hpp (e2 ▸ e)
          rw [lrank_f hb (hf.kid hpN e)]
          have := (hm.cl c (hf.kid hpN e) hcp).2.2.2
          exact ⟨by omega, hcp⟩
      obtain ⟨r2, n2⟩ := hrk _ hl2
      obtain ⟨r3, n3⟩ := hrk _ hl3
      -- what is to be shown of the cells as they are then
      have key : ∀ (s' : Ar) (a b : Int) (was : Bool), Str s s' N → (∀ c j, s'.f c j = if c = p ∧ j = 2 then a else if c = p ∧ j = 3 then b else if c = p ∧ j = 4 then s.lrank b + 1 else s.f c j) → (rl a ++ rl b).Perm (k p) → s.lrank b ≤ s.lrank a → 0 ≤ s.lrank b → a ≠ p → b ≠ p → (was = false → s.f p 4 = s.lrank b + 1) →
          ∃ k', Str s (if was = true then Ar.lup f s' (s'.cell p 0) else s') N ∧ Forest v R N k' ∧ LMem (if was = true then Ar.lup f s' (s'.cell p 0) else s') N k' [] ∧ ∀ y, (if was = true then Ar.lup f s' (s'.cell p 0) else s').f y 0 = s.f y 0 := by
        intro s' a b was hs ef hper hle h0 hap hbp hwas
        have hf' : Forest v R N (updI k p (rl a ++ rl b)) := hf.turnK hpN hper
        have hb' := hs.base hb
        have e0 : ∀ y, s'.f y 0 = s.f y 0 := fun y => by rw [ef, if_neg (fun e => by omega), if_neg (fun e => by omega), if_neg (fun e => by omega)]
        have eo : ∀ y, y ≠ p → ∀ j, s'.f y j = s.f y j := fun y hy j => by rw [ef, if_neg (fun e => by exact hy e.1), if_neg (fun e => by exact hy e.1), if_neg (fun e => by exact hy e.1)]
        have er : ∀ y, y ≠ p → s'.lrank y = s.lrank y := fun y hy => lrank_eq (hs.has y) (eo y hy 4)
        have g2 : s'.f p 2 = a := by rw [ef, if_pos ⟨rfl, rfl⟩]
        have g3 : s'.f p 3 = b := by rw [ef, if_neg (fun e => by omega), if_pos ⟨rfl, rfl⟩]
        have g4 : s'.f p 4 = s.lrank b + 1 := by rw [ef, if_neg (fun e => by omega), if_neg (fun e => by omega), if_pos ⟨rfl, rfl⟩]
        have hup : ∀ n ∈ N, ∀ m ∈ updI k p (rl a ++ rl b) n, s'.f m 0 = n := fun n hn m hm2 => by
          rw [e0]
          by_cases hnp : n = p
          · subst hnp
            rw [updI_same] at hm2
            exact hm.up _ hn m (hper.mem_iff.1 hm2)
          · rw [updI_ne _ _ hnp] at hm2
            exact hm.up n hn m hm2
        have hcp : updI k p (rl a ++ rl b) p = rl (s'.f p 2) ++ rl (s'.f p 3) ∧ s'.lrank (s'.f p 3) ≤ s'.lrank (s'.f p 2) ∧ s'.f p 4 = s'.lrank (s'.f p 3) + 1 ∧ 1 ≤ s'.f p 4 := by
          rw [g2, g3, g4, updI_same, er b hbp, er a hap]
          exact ⟨rfl, hle, rfl, by omega⟩
        -- those that p is no child of
        have hco : ∀ n ∈ N, n ≠ p → (s'.lrank p = s.lrank p ∨ p ∉ k n) → updI k p (rl a ++ rl b) n = rl (s'.f n 2) ++ rl (s'.f n 3) ∧ s'.lrank (s'.f n 3) ≤ s'.lrank (s'.f n 2) ∧ s'.f n 4 = s'.lrank (s'.f n 3) + 1 ∧ 1 ≤ s'.f n 4 := fun n hn hnp h => by
          have h1 := hm.cl n hn hnp
          have hk2 : s'.lrank (s.f n 2) = s.lrank (s.f n 2) := by
            by_cases e : s.f n 2 = p
            · rcases h with h | h
              · rw [e]; exact h
              · exact absurd (by rw [h1.1]; exact List.mem_append.2 (.inl (mem_rl.2 ⟨e.symm, by rw [e]; exact hp1⟩))) h
            · exact er _ e
          have hk3 : s'.lrank (s.f n 3) = s.lrank (s.f n 3) := by
            by_cases e : s.f n 3 = p
            · rcases h with h | h
              · rw [e]; exact h
              · exact absurd (by rw [h1.1]; exact List.mem_append.2 (.inr (mem_rl.2 ⟨e.symm, by rw [e]; exact hp1⟩))) h
            · exact er _ e
          rw [updI_ne _ _ hnp, eo n hnp, eo n hnp, eo n hnp, hk2, hk3]
          exact h1
        cases was with
        | false =>
          rw [if_neg (by decide)]
          refine ⟨_, hs, hf', ⟨fun n hn _ => ?_, fun n _ h => (by cases h), hup⟩, e0⟩
          by_cases hnp : n = p
          · rw [hnp]; exact hcp
          · refine hco n hn hnp (.inl ?_)
            rw [lrank_f hb' hpN, lrank_f hb hpN, g4, hwas rfl]
        | true =>
          rw [if_pos rfl]
          have hq : s.f p 0 = -1 ∨ (s.f p 0 ∈ N ∧ p ∈ k (s.f p 0)) := by
            rcases hf.where_ hpN with h | ⟨q, hq, h⟩
            · exact .inl (hr p h)
            · have := hm.up q hq p h
              rw [this]; exact .inr ⟨hq, h⟩
          have hc0 : s'.cell p 0 = s.f p 0 := by rw [hb'.cell hpN (by rw [e0]; exact hq.imp id (·.1)), e0]
          rw [hc0]
          have hnp : ∀ n ∈ N, n ≠ s.f p 0 → p ∉ k n := fun n hn h e => h (hm.up n hn p e).symm
          have hqp : s.f p 0 ≠ p := fun e => by
            rcases hq with h | ⟨_, h⟩
            · exact hp1 (e.symm.trans h)
            · rw [e] at h; exact hpp h
          have hlt : s.f p 0 = -1 ∨ lt3 (v (s.f p 0)) (v p) := hq.imp id fun h => hf.ord _ h.1 _ h.2
          have hbrk : LBrk s' N (updI k p (rl a ++ rl b)) (s.f p 0) := by
            refine ⟨fun n hn h => ?_, fun h => ?_, hup⟩
            · by_cases e : n = p
              · rw [e]; exact hcp
              · exact hco n hn e (.inr (hnp n hn h))
            · rw [updI_ne _ _ hqp, eo _ hqp, eo _ hqp]
              exact (hm.cl _ h hqp).1
          have hdA : (p :: A).Nodup := List.nodup_cons.2 ⟨fun e => lt3_irrefl _ ((hA p e).2.resolve_left hp1), hd⟩
          have hA' : ∀ a ∈ p :: A, a ∈ N ∧ (s.f p 0 = -1 ∨ lt3 (v (s.f p 0)) (v a)) := fun a ha => by
            rcases List.mem_cons.1 ha with e | e
            · rw [e]; exact ⟨hpN, hlt⟩
            · exact ⟨(hA a e).1, hlt.imp id fun h => lt3_trans h ((hA a e).2.resolve_left hp1)⟩
          obtain ⟨k', i1, i2, i3, i4⟩ := ih s' (s.f p 0) _ (p :: A) hf' hb' hbrk (fun y hy => by rw [e0]; exact hr y hy) (hq.imp id (·.1)) hdA hA' (by rw [List.length_cons]; omega)
          exact ⟨k', hs.trans i1, i2, i3, fun y => (i4 y).trans (e0 y)⟩
      unfold Ar.lfix
      rw [c2, c3]
      have hh := hb.has p hpN
      by_cases hlow : s.lrank (s.f p 2) < s.lrank (s.f p 3)
      · rw [if_pos hlow]
        refine key _ (s.f p 3) (s.f p 2) _ (((Str.put s _ hpN (by decide)).trans (Str.put _ _ hpN (by decide))).trans (Str.put _ _ hpN (by decide))) (fun c j => ?_) (by rw [hk]; exact List.perm_append_comm) (by omega) r2 n3 n2 (fun h => ?_)
        · simp only [Ar.put_f, Ar.put_has, hh, true_and]
          by_cases h1 : c = p
          · by_cases h2 : j = 2
            · simp [h1, h2]
            · by_cases h3 : j = 3
              · simp [h1, h3]
              · simp [h1, h2, h3]
          · simp [h1]
        · have h2 := hh
          simp only [Ar.get_f (by rw [Ar.put_has, Ar.put_has]; exact hh : ((s.put p 2 (s.f p 3)).put p 3 (s.f p 2)).has p = true), Ar.put_f, Ar.put_has, hh] at h
          simpa using h
      · rw [if_neg hlow]
        refine key _ (s.f p 2) (s.f p 3) _ (Str.put s _ hpN (by decide)) (fun c j => ?_) (by rw [hk]) (by omega) r3 n2 n3 (fun h => ?_)
        · simp only [Ar.put_f, hh, true_and]
          by_cases h1 : c = p
          · by_cases h2 : j = 2
            · rw [if_neg (fun e => by omega), if_pos ⟨h1, h2⟩, h1, h2]
            · by_cases h3 : j = 3
              · rw [if_neg (fun e => by omega), if_neg (fun e => by omega), if_pos ⟨h1, h3⟩, h1, h3]
              · rw [if_neg (c := c = p ∧ j = 2) (fun e => by exact h2 e.2), if_neg (c := c = p ∧ j = 3) (fun e => by exact h3 e.2)]
          · simp [h1]
        · rw [Ar.get_f hh] at h
          simpa using h
theorem lleave_law (hf : Forest v R N k) (hb : Base s N) (hm : LMem s N k []) (hr : ∀ x ∈ R, s.f x 0 = -1) (hx : x ∈ N) (hxR : x ∉ R) :
    ∃ k', Str s (s.lleave x) N ∧ Forest v (x :: R) N k' ∧ LMem (s.lleave x) N k' [] ∧ (∀ y ∈ x :: R, (s.lleave x).f y 0 = -1) ∧ s.cell x 0 ≠ -1 := by
  obtain ⟨p, hp, hpx⟩ := (hf.where_ hx).resolve_left hxR
  have h0 : s.f x 0 = p := hm.up p hp x hpx
  have c0 : s.cell x 0 = p := by rw [hb.cell hx (by rw [h0]; exact .inr hp), h0]
  obtain ⟨hk, c3', c4', c5'⟩ := hm.cl p hp (by simp)
  have hxp : x ≠ p := fun e => hf.self hp (e ▸ hpx)
  have h2 : s.f p 2 = -1 ∨ s.f p 2 ∈ N := by
    by_cases e : s.f p 2 = -1
    · exact .inl e
    · exact .inr (hf.kid hp (hm.left hp e))
  have h3 : s.f p 3 = -1 ∨ s.f p 3 ∈ N := by
    by_cases e : s.f p 3 = -1
    · exact .inl e
    · exact .inr (hf.kid hp (hm.right hp (by simp) e))
  have e2 : s.cell p 2 = s.f p 2 := hb.cell hp h2
  have e3 : s.cell p 3 = s.f p 3 := hb.cell hp h3
  have hx1 := hb.ne hx
  have key : ∀ (s1 : Ar) (l : List Int), Str s s1 N → (∀ n, n ≠ p → ∀ j, s1.f n j = s.f n j) → (∀ n, s1.f n 0 = s.f n 0 ∧ s1.f n 4 = s.f n 4) → (k p).Perm (x :: l) → l = rl (s1.f p 2) ++ rl (s1.f p 3) →
      ∃ k', Str s (Ar.lup (s.n + 1) (s1.put x 0 (-1)) p) N ∧ Forest v (x :: R) N k' ∧ LMem (Ar.lup (s.n + 1) (s1.put x 0 (-1)) p) N k' [] ∧ ∀ y ∈ x :: R, (Ar.lup (s.n + 1) (s1.put x 0 (-1)) p).f y 0 = -1 := by
    intro s1 l hs eo e04 hl hl2
    have hf1 := hf.cut hp hl
    have hs2 : Str s (s1.put x 0 (-1)) N := hs.trans (Str.put s1 _ hx (by decide))
    have hb2 := hs2.base hb
    have ef : ∀ c j, (s1.put x 0 (-1)).f c j = if c = x ∧ j = 0 then -1 else s1.f c j := fun c j => by
      rw [Ar.put_f]; simp only [(hs.base hb).has x hx, true_and]
    have en : ∀ c j, j ≠ 0 → (s1.put x 0 (-1)).f c j = s1.f c j := fun c j hj => by rw [ef, if_neg (fun e => by exact hj e.2)]
    have er : ∀ c, (s1.put x 0 (-1)).lrank c = s.lrank c := fun c => lrank_eq (hs2.has c) (by rw [en c 4 (by decide)]; exact (e04 c).2)
    have hroot : ∀ y ∈ x :: R, (s1.put x 0 (-1)).f y 0 = -1 := fun y hy => by
      rw [ef]
      split
      · rfl
      · rename_i h
        rcases List.mem_cons.1 hy with e | e
        · exact absurd ⟨e, rfl⟩ h
        · rw [(e04 y).1]; exact hr y e
    have hbrk : LBrk (s1.put x 0 (-1)) N (updI k p l) p := by
     refine ⟨fun n hn hnp => ?_, fun _ => ?_, fun n hn m hm2 => ?_⟩
     · rw [updI_ne _ _ hnp, en _ 2 (by decide), en _ 3 (by decide), en _ 4 (by decide), er, er, eo n hnp, eo n hnp, eo n hnp]
       exact hm.cl n hn (by simp)
     · rw [updI_same, en _ 2 (by decide), en _ 3 (by decide)]; exact hl2
     · have hmx : m ≠ x := fun e => hf1.notkid (by simp : x ∈ x :: R) hn (e ▸ hm2)
       rw [ef, if_neg (fun e => by exact hmx e.1), (e04 m).1]
       by_cases hnp : n = p
       · subst hnp
         rw [updI_same] at hm2
         exact hm.up _ hn m (hl.mem_iff.2 (by simp [hm2]))
       · rw [updI_ne _ _ hnp] at hm2
         exact hm.up n hn m hm2
    obtain ⟨k', g1, g2, g3, g4⟩ := lup_law (R := x :: R) (s.n + 1) (s1.put x 0 (-1)) p (updI k p l) [] hf1 hb2 hbrk hroot (.inr hp) List.nodup_nil (by simp) (by
      have h1 := hb.le hf.nd fun x hx => hx
      simp only [List.length_nil]; omega)
    exact ⟨k', hs2.trans g1, g2, g3, fun y hy => by rw [g4]; exact hroot y hy⟩
  have hpe : ∀ (j : Int), j ≠ 0 → j ≠ 4 → (∀ n, n ≠ p → ∀ i, (s.put p j (-1)).f n i = s.f n i) ∧ (∀ n, (s.put p j (-1)).f n 0 = s.f n 0 ∧ (s.put p j (-1)).f n 4 = s.f n 4) ∧ (s.put p j (-1)).f p j = -1 ∧ ∀ i, i ≠ j → (s.put p j (-1)).f p i = s.f p i := fun j h0 h4 => by
    have ef : ∀ c i, (s.put p j (-1)).f c i = if c = p ∧ i = j then -1 else s.f c i := fun c i => by rw [Ar.put_f]; simp only [hb.has p hp, true_and]
    exact ⟨fun n hn i => by rw [ef, if_neg (fun e => by exact hn e.1)], fun n => ⟨by rw [ef, if_neg (fun e => by exact h0 e.2.symm)], by rw [ef, if_neg (fun e => by exact h4 e.2.symm)]⟩, by rw [ef, if_pos ⟨rfl, rfl⟩], fun i hi => by rw [ef, if_neg (fun e => by exact hi e.2)]⟩
  have main : ∃ k', Str s (s.lleave x) N ∧ Forest v (x :: R) N k' ∧ LMem (s.lleave x) N k' [] ∧ ∀ y ∈ x :: R, (s.lleave x).f y 0 = -1 := by
    unfold Ar.lleave Ar.lunl
    rw [c0, e2, e3]
    by_cases h : s.f p 2 = x
    · rw [if_pos h]
      obtain ⟨a1, a2, a3, a4⟩ := hpe 2 (by decide) (by decide)
      refine key _ (rl (s.f p 3)) (Str.put s _ hp (by decide)) a1 a2 ?_ ?_
      · rw [hk, h, rl_some hx1]; exact List.Perm.refl _
      · rw [a3, a4 3 (by decide), rl_none, List.nil_append]
    · have h3x : s.f p 3 = x := by
        rw [hk] at hpx
        rcases List.mem_append.1 hpx with e | e
        · exact absurd (mem_rl.1 e).1.symm h
        · exact (mem_rl.1 e).1.symm
      rw [if_neg h, if_pos h3x]
      obtain ⟨a1, a2, a3, a4⟩ := hpe 3 (by decide) (by decide)
      refine key _ (rl (s.f p 2)) (Str.put s _ hp (by decide)) a1 a2 ?_ ?_
      · rw [hk, h3x, rl_some hx1]; exact List.perm_append_singleton _ _
      · rw [a3, a4 2 (by decide), rl_none, List.append_nil]
  obtain ⟨k', a, b, c, d⟩ := main
  exact ⟨k', a, b, c, d, by rw [c0]; exact hb.ne hp⟩
theorem LMem.sub (h : LMem s N k []) (hM : ∀ x ∈ M, x ∈ N) : LMem s M k [] := ⟨fun n hn => h.cl n (hM n hn), fun n hn e => (by cases e), fun n hn => h.up n (hM n hn)⟩
theorem LHeap.permN (h : LHeap s r N) (hN : N.Perm M) : LHeap s r M := by
  obtain ⟨k, hf, hb, hm, hr⟩ := h
  exact ⟨k, hf.permN hN, hb.sub fun x hx => hN.mem_iff.2 hx, hm.sub fun x hx => hN.mem_iff.2 hx, hr⟩
theorem lleave_two (hf : Forest v (rl r) N k) (hb : Base s N) (hm : LMem s N k []) (hr : ∀ x ∈ rl r, s.f x 0 = -1) (hx : x ∈ N) (hxr : x ≠ r) (hlow : Low v s.iv N x) :
    ∃ N1 N2, N.Perm (N1 ++ N2) ∧ Str s (s.lleave x) N ∧ LHeap (s.lleave x) r N1 ∧ LHeap (s.lleave x) x N2 ∧ s.cell x 0 ≠ -1 ∧ ∀ y ∈ N, 1 ≤ (s.lleave x).f y 4 ∧ (s.lleave x).f y 4 ≤ N.length := by
  have hxR : x ∉ rl r := fun e => hxr (mem_rl.1 e).1
  obtain ⟨k', g1, g2, g3, g4, g5⟩ := lleave_law hf hb hm hr hx hxR
  have hb' := g1.base hb
  have g2' : Forest (s.lleave x).iv (x :: rl r) N k' := by rw [g1.ivf]; exact g2.low (by simp) hlow hb.inj
  obtain ⟨N1, N2, a1, a2, a3⟩ := Forest.split N.length N (rl r) (rl x) (Nat.le_refl _) (g2'.permR (by rw [rl_some (hb.ne hx)]; exact (List.perm_append_singleton _ _).symm))
  have hs := mem_split a1
  exact ⟨N1, N2, a1, g1, ⟨k', a2, hb'.sub hs.1, g3.sub hs.1, fun y hy => g4 y (by simp [hy])⟩, ⟨k', a3, hb'.sub hs.2, g3.sub hs.2, fun y hy => g4 y (by rw [(mem_rl.1 hy).1]; simp)⟩, g5, fun y hy => lrank_le g2' hb' g3 hy⟩
theorem LHeap.up (h : LHeap s r N) (hx : x ∈ N) : s.cell x 0 = s.f x 0 ∧ (s.f x 0 = -1 ↔ x = r) := by
  obtain ⟨k, hf, hb, hm, hr⟩ := h
  rcases hf.where_ hx with h1 | ⟨p, hp, h1⟩
  · have h2 := hr x h1
    exact ⟨by rw [hb.cell hx (.inl h2)], by rw [h2]; exact ⟨fun _ => (mem_rl.1 h1).1, fun _ => rfl⟩⟩
  · have h2 := hm.up p hp x h1
    refine ⟨by rw [hb.cell hx (by rw [h2]; exact .inr hp)], ?_⟩
    rw [h2]
    refine ⟨fun e => absurd e (hb.ne hp), fun e => ?_⟩
    subst e
    exact absurd h1 (hf.notkid (mem_rl.2 ⟨rfl, hb.ne hx⟩) hp)
theorem Base.halves {N1 N2 : List Int} (h : Base s N) (hd : N.Nodup) (hp : N.Perm (N1 ++ N2)) : (∀ x ∈ N1, x ∉ N2) ∧ ∀ n ∈ N1, ∀ m ∈ N2, s.f m 6 ≠ n ∧ s.f n 6 ≠ m := by
  have h1 := hp.nodup_iff.1 hd
  have hs := mem_split hp
  exact ⟨fun x hx e => (List.nodup_append.1 h1).2.2 x hx x e rfl, fun n hn m hm => ⟨h.di n (hs.1 n hn) m (hs.2 m hm), h.di m (hs.2 m hm) n (hs.1 n hn)⟩⟩
theorem Base.node9 (h : Base s N) (hx : x ∈ N) : s.cell (s.f x 6) 9 = x := by
  rw [Ar.cell_f (h.it x hx) (by rw [h.bk x hx]; exact .inr (h.has x hx)), h.bk x hx]
theorem LHeap.fall (h : LHeap s r N) (hx : x ∈ N) (hk : key ≤ s.f (s.f x 6) 7) :
    LHeap ((s.put (s.f x 6) 7 key).lfall r (s.f x 6)).1 ((s.put (s.f x 6) 7 key).lfall r (s.f x 6)).2 N ∧ Str (s.put (s.f x 6) 7 key) ((s.put (s.f x 6) 7 key).lfall r (s.f x 6)).1 N ∧
      (x ≠ r → ∀ y ∈ N, 1 ≤ ((s.put (s.f x 6) 7 key).lleave x).f y 4 ∧ ((s.put (s.f x 6) 7 key).lleave x).f y 4 ≤ N.length) := by
  obtain ⟨k, hf, hb, hm, hr⟩ := h
  obtain ⟨hb', hlow, eo, eh⟩ := hb.lower hx hk
  have e6 : (s.put (s.f x 6) 7 key).f x 6 = s.f x 6 := eo x 6 (by decide)
  have hm' : LMem (s.put (s.f x 6) 7 key) N k [] := hm.congr hf (fun c _ => eh c) (fun c _ => ⟨eo c 2 (by decide), eo c 3 (by decide), eo c 4 (by decide)⟩) fun n _ m _ => eo m 0 (by decide)
  have hr2 : ∀ y ∈ rl r, (s.put (s.f x 6) 7 key).f y 0 = -1 := fun y hy => by rw [eo y 0 (by decide)]; exact hr y hy
  have h9 := hb'.node9 hx
  rw [e6] at h9
  generalize s.put (s.f x 6) 7 key = s1 at *
  unfold Ar.lfall
  rw [h9]
  by_cases hxr : x = r
  · rw [if_pos (.inr (.inl hxr))]
    have hr1 : x ∈ rl r := mem_rl.2 ⟨hxr, hxr ▸ hb.ne hx⟩
    exact ⟨⟨k, hf.low hr1 hlow hb'.inj, hb', hm', hr2⟩, Str.refl _ _, fun h => absurd hxr h⟩
  · obtain ⟨N1, N2, a1, a2, a3, a4, a5, a6⟩ := lleave_two hf hb' hm' hr2 hx hxr hlow
    rw [if_neg (fun e => by rcases e with e | e | e; exact hb.ne hx e; exact hxr e; exact a5 e)]
    have hh := (a2.base hb').halves hf.nd a1
    obtain ⟨j1, j2, _⟩ := a3.meld hh.1 hh.2 a4
    exact ⟨j1.permN a1.symm, a2.trans (j2.mono fun y hy => a1.mem_iff.2 hy), fun _ => a6⟩
def CutR (s s' : Ar) (N : List Int) (i n : Int) (M : List Int) : Prop := ∃ s1, N.Perm (n :: M) ∧ Frm s s1 N ∧ Base s1 N ∧ s1.f n 6 = i ∧ Frm (s1.endNode n) s' N ∧ s'.f n 6 = i ∧ 0 ≤ s'.f n 4 ∧ s'.f n 4 ≤ 300
theorem LHeap.cut (h : LHeap s r N) (hrb : s.RB 70000) (hl : N.length ≤ 300) (hx : x ∈ N) :
    ∃ M, LHeap (s.lcut r (s.f x 6)).1 (s.lcut r (s.f x 6)).2 M ∧ CutR s (s.lcut r (s.f x 6)).1 N (s.f x 6) x M ∧ (x ≠ r → ((s.lleave x).lpop x).1.RB 70000 ∧ ((s.lleave x).lpop x).1.n = s.n) := by
  have hup := h.up hx
  obtain ⟨k, hf, hb, hm, hr⟩ := id h
  have hx1 := hb.ne hx
  have h9 := hb.node9 hx
  have hd := hf.nd
  unfold Ar.lcut
  rw [h9, if_neg hx1]
  by_cases hxr : x = r
  · rw [if_pos (.inl hxr)]
    subst hxr
    have hN := List.perm_cons_erase hx
    obtain ⟨c1, c2, c3, _, c5⟩ := h.pop hx1 hN
    have h4 := lrank_le hf hb hm hx
    exact ⟨_, c1, ⟨s, hN, Frm.refl _ _, hb, rfl, c2.frm, by rw [c2.hi x 6 (by decide), Ar.endNode_f hb hx, if_neg (fun e => by omega)], by rw [c5]; omega, by rw [c5]; omega⟩, fun h => absurd rfl h⟩
  · obtain ⟨N1, N2, a1, a2, a3, a4, a5, a6⟩ := lleave_two hf hb hm hr hx hxr ⟨fun _ _ _ => rfl, .inl rfl⟩
    rw [if_neg (fun e => by rcases e with e | e; exact hxr e; exact a5 e)]
    have hb1 := a2.base hb
    have hs := mem_split a1
    have hh := hb1.halves hd a1
    have hd2 := a1.nodup_iff.1 hd
    rw [List.nodup_append] at hd2
    have hxN2 : x ∈ N2 := (a4.least hx1).1
    have hN2 := List.perm_cons_erase hxN2
    obtain ⟨c1, c2, c3, _, c5⟩ := a4.pop hx1 hN2
    generalize hM2 : N2.erase x = M2 at *
    have hsM2 : ∀ y ∈ M2, y ∈ N2 := fun y hy => hN2.mem_iff.2 (by simp [hy])
    have hperm : N.Perm (x :: (N1 ++ M2)) := a1.trans ((hN2.append_left N1).trans List.perm_middle)
    have e6 : (s.lleave x).f x 6 = s.f x 6 := a2.hi x 6 (by decide)
    have hbe := hb1.endNode hd hperm
    -- the other half is as it was
    have hx1' : x ∉ N1 := fun e => hh.1 x e hxN2
    have same : Same (s.lleave x) ((s.lleave x).lpop x).1 N1 := by
      have ef := Ar.endNode_f hb1 hx
      have hne : ∀ c ∈ N1, c ≠ x := fun c hc e => hx1' (e ▸ hc)
      refine Same.trans (s1 := (s.lleave x).endNode x) ⟨fun c hc => Ar.endNode_has hb1 hx c (hne c hc), fun c hc => Ar.endNode_has hb1 hx _ (hb1.di x hx c (hs.1 c hc)), fun c hc j hj => by rw [ef, if_neg (fun e => by omega)], fun c hc => ⟨by rw [ef, if_neg (fun e => by omega)], by rw [ef, if_neg (fun e => by omega)], ?_⟩⟩ (c2.frm.same_of (fun y hy e => hh.1 y hy e) fun y hy m hm2 e => ?_)
      · rw [ef, if_neg (fun e => by exact hne c hc (hb1.inj6 (hs.1 c hc) hx e.1))]
      · rw [ef, ef, if_neg (fun e => by omega), if_neg (fun e => by omega)] at e
        exact hh.1 y hy (by rw [← hb1.inj6 (hs.2 m hm2) (hs.1 y hy) e]; exact hm2)
    have g3 := a3.same same
    have hbp : Base ((s.lleave x).lpop x).1 (N1 ++ M2) := c2.base hbe
    have hdM : (N1 ++ M2).Nodup := (List.nodup_cons.1 (hperm.nodup_iff.1 hd)).2
    have hh2 := hbp.halves hdM (List.Perm.refl _)
    obtain ⟨j1, j2, _⟩ := g3.meld hh2.1 hh2.2 c1
    have hxM : x ∉ N1 ++ M2 := (List.nodup_cons.1 (hperm.nodup_iff.1 hd)).1
    have hsub : ∀ y ∈ N1 ++ M2, y ∈ N := fun y hy => hperm.mem_iff.2 (by simp at hy ⊢; exact .inr hy)
    have a6x := a6 x hx
    refine ⟨_, j1, ⟨s.lleave x, hperm, a2.frm, hb1, e6, ((c2.mono hs.2).trans (j2.mono hsub)).frm, ?_, ?_, ?_⟩, fun _ => ⟨fun y => ?_, c2.n_.trans ((Ar.endNode_n _ _).trans a2.n_)⟩⟩
    · rw [j2.hi x 6 (by decide), c2.hi x 6 (by decide), Ar.endNode_f hb1 hx, if_neg (fun e => by omega), e6]
    · rw [j2.out x hxM, c5]; omega
    · rw [j2.out x hxM, c5]; omega
    · by_cases hy : y ∈ N
      · by_cases e : y = x
        · rw [e, c5]; omega
        · have hyM := (List.mem_cons.1 (hperm.mem_iff.1 hy)).resolve_left e
          rcases List.mem_append.1 hyM with h1 | h1
          · rw [same.f y h1 4 (by decide)]; have := a6 y hy; omega
          · obtain ⟨k2, f2, b2, m2, _⟩ := c1
            have := lrank_le f2 b2 m2 h1
            have h5 := nodup_sub M2 N (by rw [List.nodup_append] at hdM; exact hdM.2.1) fun z hz => hs.2 z (hsM2 z hz)
            omega
      · rw [c2.out y (fun e => hy (hs.2 y e)), Ar.endNode_f hb1 hx, if_neg (fun e => by omega), a2.out y hy]
        exact hrb y
end
end Go.Proofs.YtognmhgdegpdiaaGreat
end
section
/- Pairing heaps: a node leaves its place. -/
namespace Go.Proofs.YtognmhgdegpdiaaGreat
set_option linter.unusedVariables false
set_option linter.unusedSimpArgs false
def Ar.pleave (s : Ar) (n : Int) : Ar :=
  Ar.proot (if s.cell n 3 = -1 then (if s.cell n 2 = -1 then s.put (s.cell n 0) 1 (s.cell n 3) else s.put (s.cell n 2) 3 (s.cell n 3)) else (if s.cell n 2 = -1 then s.put (s.cell n 0) 1 (s.cell n 3) else s.put (s.cell n 2) 3 (s.cell n 3)).put (s.cell n 3) 2 (s.cell n 2)) n
def Ar.pfall (s : Ar) (r i : Int) : Ar × Int := if s.cell i 9 = -1 ∨ s.cell i 9 = r ∨ s.cell (s.cell i 9) 0 = -1 then (s, r) else (s.pleave (s.cell i 9)).plink r (s.cell i 9)
def Ar.pcut (s : Ar) (r i : Int) : Ar × Int := if s.cell i 9 = -1 then (s, r) else if s.cell i 9 = r ∨ s.cell (s.cell i 9) 0 = -1 then ((s.ppop (s.cell i 9)).1, (s.ppop (s.cell i 9)).2.1)
  else ((s.pleave (s.cell i 9)).ppop (s.cell i 9)).1.plink r ((s.pleave (s.cell i 9)).ppop (s.cell i 9)).2.1
theorem Dk.left {s : Ar} {x : Int} {B : List Int} : ∀ {A : List Int} {q d : Int}, Dk s q d (A ++ x :: B) → (A = [] ∧ s.f x 2 = q) ∨ s.f x 2 ∈ A
  | [], q, d, h => .inl ⟨rfl, h.2.1⟩
  | a :: A, q, d, h => by
    rcases Dk.left (A := A) h.2.2 with ⟨_, e⟩ | e
    · exact .inr (by simp [e])
    · exact .inr (by simp [e])
theorem Dk.right {s : Ar} {x : Int} {B : List Int} : ∀ {A : List Int} {q d : Int}, Dk s q d (A ++ x :: B) → s.f x 3 = -1 ∨ s.f x 3 ∈ B
  | [], q, d, h => Lk.at_ h.2.2.lk
  | a :: A, q, d, h => Dk.right (A := A) h.2.2
theorem Dk.out {s s' : Ar} {x : Int} {B : List Int} : ∀ {A : List Int} {q d : Int}, Dk s q d (A ++ x :: B) → (A ++ x :: B).Nodup → q ∉ A ++ x :: B → (∀ y ∈ A ++ x :: B, y ≠ -1) → (∀ y ∈ A ++ B, s'.f y 3 = if y = s.f x 2 then s.f x 3 else s.f y 3) → (∀ y ∈ A ++ B, s'.f y 2 = if y = s.f x 3 then s.f x 2 else s.f y 2) →
    Dk s' q (if A = [] then s.f x 3 else d) (A ++ B)
  | [], q, d, h, hd, hq, hn, h3, h2 => by
    rw [if_pos rfl]
    obtain ⟨e1, e2, e3⟩ := h
    simp only [List.nil_append] at *
    cases B with
    | nil => exact e3
    | cons b B =>
      obtain ⟨f1, f2, f3⟩ := e3
      rw [List.nodup_cons, List.nodup_cons] at hd
      refine ⟨f1, ?_, ?_⟩
      · rw [h2 b (by simp), if_pos f1.symm]; exact e2
      · rw [h3 b (by simp), if_neg (fun e => hq (by rw [← e2, ← e]; simp))]
        refine Dk.congr (fun y hy => ⟨?_, ?_⟩) f3
        · rw [h2 y (by simp [hy]), if_neg (fun e => hd.2.1 (by rw [← f1, ← e]; exact hy))]
        · rw [h3 y (by simp [hy]), if_neg (fun e => hq (by rw [← e2, ← e]; simp [hy]))]
  | a :: A, q, d, h, hd, hq, hn, h3, h2 => by
    obtain ⟨e1, e2, e3⟩ := h
    rw [List.cons_append, List.nodup_cons] at hd
    rw [if_neg (by simp)]
    have hr := Dk.right (A := A) e3
    have hax : a ≠ s.f x 3 := fun e => by
      rcases hr with h | h
      · exact hn a (by simp) (e.trans h)
      · exact hd.1 (by rw [e]; simp [h])
    have ih := Dk.out (s' := s') (A := A) (q := a) e3 hd.2 hd.1 (fun y hy => hn y (List.mem_cons_of_mem _ hy)) (fun y hy => h3 y (List.mem_cons_of_mem _ hy)) fun y hy => h2 y (List.mem_cons_of_mem _ hy)
    refine ⟨e1, ?_, ?_⟩
    · rw [h2 a (by simp), if_neg hax]; exact e2
    · rw [h3 a (by simp)]
      rcases Dk.left (A := A) e3 with ⟨hA, e⟩ | e
      · rw [if_pos e.symm]
        rw [if_pos hA] at ih
        exact ih
      · have hA : A ≠ [] := fun h => by rw [h] at e; cases e
        rw [if_neg (fun h => hd.1 (by rw [h]; simp [e]))]
        rw [if_neg hA] at ih
        exact ih
section
variable {s : Ar} {v : Int → V3i} {R Q N M : List Int} {k : Int → List Int} {x n m p r i key : Int}
theorem pleave_law (hf : Forest v R N k) (hb : Base s N) (hm : PMem s N k) (hr : PRt s R) (hx : x ∈ N) (hxR : x ∉ R) :
    ∃ k', Str s (s.pleave x) N ∧ Forest v (x :: R) N k' ∧ PMem (s.pleave x) N k' ∧ PRt (s.pleave x) (x :: R) ∧ s.cell x 0 ≠ -1 ∧ ∀ c, (s.pleave x).f c 4 = s.f c 4 := by
  obtain ⟨p, hp, hpx⟩ := (hf.where_ hx).resolve_left hxR
  obtain ⟨A, B, hk⟩ := List.append_of_mem hpx
  have h0 : s.f x 0 = p := hm.up p hp x hpx
  have c0 : s.cell x 0 = p := by rw [hb.cell hx (by rw [h0]; exact .inr hp), h0]
  have hkd := hm.kc p hp
  have hnd := hf.ndK hp
  rw [hk] at hkd hnd
  have hl := hkd.left
  have hrr := hkd.right
  have hkN : ∀ y ∈ A ++ x :: B, y ∈ N := fun y hy => hf.kid hp (by rw [hk]; exact hy)
  have hl' : s.f x 2 = -1 ∨ s.f x 2 ∈ k p := hl.imp (·.2) fun e => by rw [hk]; simp [e]
  have hr' : s.f x 3 = -1 ∨ s.f x 3 ∈ k p := hrr.imp id fun e => by rw [hk]; simp [e]
  have c2 : s.cell x 2 = s.f x 2 := hb.cell hx (hl'.imp id (hf.kid hp))
  have c3 : s.cell x 3 = s.f x 3 := hb.cell hx (hr'.imp id (hf.kid hp))
  have hx1 := hb.ne hx
  have hxp : x ≠ p := fun e => hf.self hp (e ▸ hpx)
  have hnd' : x ∉ A ∧ x ∉ B := by
    rw [List.nodup_append, List.nodup_cons] at hnd
    exact ⟨fun e => hnd.2.2 x e x (by simp) rfl, hnd.2.1.1⟩
  have h2x : s.f x 2 ≠ x := fun e => by
    rcases hl with h | h
    · exact hx1 (e.symm.trans h.2)
    · rw [e] at h; exact hnd'.1 h
  have h3x : s.f x 3 ≠ x := fun e => by
    rcases hrr with h | h
    · exact hx1 (e.symm.trans h)
    · rw [e] at h; exact hnd'.2 h
  have h2p : s.f x 2 ≠ p := fun e => by
    rcases hl' with h | h
    · exact hb.ne hp (e.symm.trans h)
    · rw [e] at h; exact hf.self hp h
  have hs : Str s (s.pleave x) N := by
    unfold Ar.pleave Ar.proot
    rw [c0, c2, c3]
    have h1 : Str s (if s.f x 2 = -1 then s.put p 1 (s.f x 3) else s.put (s.f x 2) 3 (s.f x 3)) N := by
      split
      · exact Str.put s _ hp (by decide)
      · rename_i h; exact Str.put s _ (hf.kid hp (hl'.resolve_left h)) (by decide)
    have h2 : Str s (if s.f x 3 = -1 then (if s.f x 2 = -1 then s.put p 1 (s.f x 3) else s.put (s.f x 2) 3 (s.f x 3)) else (if s.f x 2 = -1 then s.put p 1 (s.f x 3) else s.put (s.f x 2) 3 (s.f x 3)).put (s.f x 3) 2 (s.f x 2)) N := by
      split
      · exact h1
      · rename_i h; exact h1.trans (Str.put _ _ (hf.kid hp (hr'.resolve_left h)) (by decide))
    exact ((h2.trans (Str.put _ _ hx (by decide))).trans (Str.put _ _ hx (by decide))).trans (Str.put _ _ hx (by decide))
  have ef : ∀ c j, (s.pleave x).f c j = if c = x ∧ (j = 0 ∨ j = 2 ∨ j = 3) then -1 else if s.f x 3 ≠ -1 ∧ c = s.f x 3 ∧ j = 2 then s.f x 2 else if s.f x 2 ≠ -1 ∧ c = s.f x 2 ∧ j = 3 then s.f x 3 else if s.f x 2 = -1 ∧ c = p ∧ j = 1 then s.f x 3 else s.f c j := by
    intro c j
    unfold Ar.pleave
    rw [c0, c2, c3]
    have hhx := hb.has x hx
    rw [proot_f (by split <;> split <;> simp only [Ar.put_has, hhx])]
    by_cases h : c = x ∧ (j = 0 ∨ j = 2 ∨ j = 3)
    · rw [if_pos h, if_pos h]
    · rw [if_neg h, if_neg h]
      by_cases e3 : s.f x 3 = -1
      · rw [if_pos e3, if_neg (c := s.f x 3 ≠ -1 ∧ c = s.f x 3 ∧ j = 2) (fun e => by exact e.1 e3)]
        by_cases e2 : s.f x 2 = -1
        · rw [if_pos e2, if_neg (c := s.f x 2 ≠ -1 ∧ c = s.f x 2 ∧ j = 3) (fun e => by exact e.1 e2), Ar.put_f]
          simp only [hb.has p hp, true_and, e2]
        · rw [if_neg e2, if_neg (c := s.f x 2 = -1 ∧ c = p ∧ j = 1) (fun e => by exact e2 e.1), Ar.put_f]
          simp only [hb.has _ (hf.kid hp (hl'.resolve_left e2)), true_and, ne_eq, e2, not_false_eq_true]
      · rw [if_neg e3, Ar.put_f]
        have hh3 := hb.has _ (hf.kid hp (hr'.resolve_left e3))
        by_cases e2 : s.f x 2 = -1
        · rw [if_pos e2, if_neg (c := s.f x 2 ≠ -1 ∧ c = s.f x 2 ∧ j = 3) (fun e => by exact e.1 e2), Ar.put_f, Ar.put_has]
          simp only [hb.has p hp, hh3, true_and, e2, ne_eq, e3, not_false_eq_true]
        · rw [if_neg e2, if_neg (c := s.f x 2 = -1 ∧ c = p ∧ j = 1) (fun e => by exact e2 e.1), Ar.put_f, Ar.put_has]
          simp only [hb.has _ (hf.kid hp (hl'.resolve_left e2)), hh3, true_and, ne_eq, e2, e3, not_false_eq_true]
  have e4 : ∀ c, (s.pleave x).f c 4 = s.f c 4 := fun c => by rw [ef, if_neg (fun e => by omega), if_neg (fun e => by omega), if_neg (fun e => by omega), if_neg (fun e => by omega)]
  have e0 : ∀ c, c ≠ x → (s.pleave x).f c 0 = s.f c 0 := fun c h => by rw [ef, if_neg (fun e => by exact h e.1), if_neg (fun e => by omega), if_neg (fun e => by omega), if_neg (fun e => by omega)]
  have e1 : ∀ c, c ≠ p → (s.pleave x).f c 1 = s.f c 1 := fun c h => by rw [ef, if_neg (fun e => by omega), if_neg (fun e => by omega), if_neg (fun e => by omega), if_neg (fun e => by exact h e.2.1)]
  have e1p : (s.pleave x).f p 1 = if s.f x 2 = -1 then s.f x 3 else s.f p 1 := by
    rw [ef, if_neg (fun e => by omega), if_neg (fun e => by omega), if_neg (fun e => by omega)]
    by_cases h : s.f x 2 = -1
    · rw [if_pos ⟨h, rfl, rfl⟩, if_pos h]
    · rw [if_neg (fun e => by exact h e.1), if_neg h]
  have e2 : ∀ c, c ≠ x → c ≠ -1 → (s.pleave x).f c 2 = if c = s.f x 3 then s.f x 2 else s.f c 2 := fun c h h1 => by
    rw [ef, if_neg (fun e => by exact h e.1)]
    by_cases e : c = s.f x 3
    · rw [if_pos ⟨by rw [← e]; exact h1, e, rfl⟩, if_pos e]
    · rw [if_neg (fun h => by exact e h.2.1), if_neg (fun e => by omega), if_neg (fun e => by omega), if_neg e]
  have e3 : ∀ c, c ≠ x → c ≠ -1 → (s.pleave x).f c 3 = if c = s.f x 2 then s.f x 3 else s.f c 3 := fun c h h1 => by
    rw [ef, if_neg (fun e => by exact h e.1), if_neg (fun e => by omega)]
    by_cases e : c = s.f x 2
    · rw [if_pos ⟨by rw [← e]; exact h1, e, rfl⟩, if_pos e]
    · rw [if_neg (fun h => by exact e h.2.1), if_neg (fun e => by omega), if_neg e]
  have hl2 : (k p).Perm (x :: (A ++ B)) := by rw [hk]; exact List.perm_middle
  have hf1 := hf.cut hp hl2
  refine ⟨_, hs, hf1, ⟨fun n hn => ?_, fun n hn m hm2 => ?_⟩, fun y hy => ?_, by rw [c0]; exact hb.ne hp, e4⟩
  · by_cases hnp : n = p
    · subst hnp
      rw [updI_same, e1p]
      have hne : ∀ y ∈ A ++ B, y ≠ x ∧ y ≠ -1 := fun y hy => by
        have : y ∈ A ++ x :: B := by simp at hy ⊢; rcases hy with h | h <;> simp [h]
        refine ⟨fun e => ?_, hb.ne (hkN y this)⟩
        rcases List.mem_append.1 hy with h | h
        · exact hnd'.1 (e ▸ h)
        · exact hnd'.2 (e ▸ h)
      have := Dk.out (s' := s.pleave x) hkd hnd (fun e => by have := hb.ne (hkN _ e); omega) (fun y hy => hb.ne (hkN y hy)) (fun y hy => e3 y (hne y hy).1 (hne y hy).2) fun y hy => e2 y (hne y hy).1 (hne y hy).2
      rcases hl with ⟨h, e⟩ | h
      · rw [if_pos e]; rw [if_pos h] at this; exact this
      · have hA : A ≠ [] := fun e => by rw [e] at h; cases h
        have h5 : s.f x 2 ≠ -1 := hb.ne (hkN _ (by simp [h]))
        rw [if_neg h5]; rw [if_neg hA] at this; exact this
    · rw [updI_ne _ _ hnp, e1 n hnp]
      refine Dk.congr (fun z hz => ?_) (hm.kc n hn)
      have hzx : z ≠ x := fun e => hnp (hf.once hn hp (e ▸ hz) hpx)
      have hz1 := hb.ne (hf.kid hn hz)
      rw [e2 z hzx hz1, e3 z hzx hz1, if_neg (fun e => ?_), if_neg (fun e => ?_)]
      · exact ⟨rfl, rfl⟩
      · rcases hl' with h | h
        · exact hz1 (e.trans h)
        · exact hnp (hf.once hn hp hz (e ▸ h))
      · rcases hr' with h | h
        · exact hz1 (e.trans h)
        · exact hnp (hf.once hn hp hz (e ▸ h))
  · have hmx : m ≠ x := fun e => hf1.notkid (by simp : x ∈ x :: R) hn (e ▸ hm2)
    rw [e0 m hmx]
    by_cases hnp : n = p
    · subst hnp
      rw [updI_same] at hm2
      exact hm.up _ hn m (hl2.mem_iff.2 (by simp [hm2]))
    · rw [updI_ne _ _ hnp] at hm2
      exact hm.up n hn m hm2
  · by_cases hyx : y = x
    · rw [ef, if_pos ⟨hyx, .inl rfl⟩, ef, if_pos ⟨hyx, .inr (.inl rfl)⟩]; exact ⟨rfl, rfl⟩
    · have hyR := (List.mem_cons.1 hy).resolve_left hyx
      rw [e0 y hyx, e2 y hyx (hb.ne (hf.root hyR)), if_neg (fun e => ?_)]
      · exact hr y hyR
      · rcases hr' with h | h
        · exact hb.ne (hf.root hyR) (e.trans h)
        · exact hf.notkid hyR hp (e ▸ h)
theorem PRt.sub {R Q : List Int} (h : PRt s R) (hQ : ∀ x ∈ Q, x ∈ R) : PRt s Q := fun n hn => h n (hQ n hn)
theorem PHeap.permN (h : PHeap s r N) (hN : N.Perm M) : PHeap s r M := by
  obtain ⟨k, hf, hb, hm, hr⟩ := h
  exact ⟨k, hf.permN hN, hb.sub fun x hx => hN.mem_iff.2 hx, hm.sub fun x hx => hN.mem_iff.2 hx, hr⟩
theorem pleave_two (hf : Forest v (rl r) N k) (hb : Base s N) (hm : PMem s N k) (hr : PRt s (rl r)) (hx : x ∈ N) (hxr : x ≠ r) (hlow : Low v s.iv N x) :
    ∃ N1 N2, N.Perm (N1 ++ N2) ∧ Str s (s.pleave x) N ∧ PHeap (s.pleave x) r N1 ∧ PHeap (s.pleave x) x N2 ∧ s.cell x 0 ≠ -1 ∧ ∀ c, (s.pleave x).f c 4 = s.f c 4 := by
  have hxR : x ∉ rl r := fun e => hxr (mem_rl.1 e).1
  obtain ⟨k', g1, g2, g3, g4, g5, g6⟩ := pleave_law hf hb hm hr hx hxR
  have hb' := g1.base hb
  have g2' : Forest (s.pleave x).iv (x :: rl r) N k' := by rw [g1.ivf]; exact g2.low (by simp) hlow hb.inj
  obtain ⟨N1, N2, a1, a2, a3⟩ := Forest.split N.length N (rl r) (rl x) (Nat.le_refl _) (g2'.permR (by rw [rl_some (hb.ne hx)]; exact (List.perm_append_singleton _ _).symm))
  have hs := mem_split a1
  exact ⟨N1, N2, a1, g1, ⟨k', a2, hb'.sub hs.1, g3.sub hs.1, g4.sub fun y hy => by simp [hy]⟩, ⟨k', a3, hb'.sub hs.2, g3.sub hs.2, g4.sub fun y hy => by rw [(mem_rl.1 hy).1]; simp⟩, g5, g6⟩
theorem PHeap.fall (h : PHeap s r N) (hx : x ∈ N) (hk : key ≤ s.f (s.f x 6) 7) :
    PHeap ((s.put (s.f x 6) 7 key).pfall r (s.f x 6)).1 ((s.put (s.f x 6) 7 key).pfall r (s.f x 6)).2 N ∧ Str (s.put (s.f x 6) 7 key) ((s.put (s.f x 6) 7 key).pfall r (s.f x 6)).1 N ∧ ∀ c, ((s.put (s.f x 6) 7 key).pfall r (s.f x 6)).1.f c 4 = s.f c 4 := by
  obtain ⟨k, hf, hb, hm, hr⟩ := h
  obtain ⟨hb', hlow, eo, eh⟩ := hb.lower hx hk
  have e6 : (s.put (s.f x 6) 7 key).f x 6 = s.f x 6 := eo x 6 (by decide)
  have e4 : ∀ c, (s.put (s.f x 6) 7 key).f c 4 = s.f c 4 := fun c => eo c 4 (by decide)
  have hm' : PMem (s.put (s.f x 6) 7 key) N k := hm.congr (fun n hn m => hf.kid hn) fun c _ j _ hj => eo c j (by omega)
  have hr2 : PRt (s.put (s.f x 6) 7 key) (rl r) := fun y hy => by rw [eo y 0 (by decide), eo y 2 (by decide)]; exact hr y hy
  have h9 := hb'.node9 hx
  rw [e6] at h9
  generalize s.put (s.f x 6) 7 key = s1 at *
  unfold Ar.pfall
  rw [h9]
  by_cases hxr : x = r
  · rw [if_pos (.inr (.inl hxr))]
    have hr1 : x ∈ rl r := mem_rl.2 ⟨hxr, hxr ▸ hb.ne hx⟩
    exact ⟨⟨k, hf.low hr1 hlow hb'.inj, hb', hm', hr2⟩, Str.refl _ _, e4⟩
  · obtain ⟨N1, N2, a1, a2, a3, a4, a5, a6⟩ := pleave_two hf hb' hm' hr2 hx hxr hlow
    rw [if_neg (fun e => by rcases e with e | e | e; exact hb.ne hx e; exact hxr e; exact a5 e)]
    have hh := (a2.base hb').halves hf.nd a1
    obtain ⟨j1, j2⟩ := a3.meld hh.1 hh.2 a4
    exact ⟨j1.permN a1.symm, a2.trans (j2.mono fun y hy => a1.mem_iff.2 hy), fun c => by rw [plink_f4, a6, e4]⟩
theorem ppop_f4 (hb : Base s N) (hx : x ∈ N) (c : Int) : (s.ppop x).1.f c 4 = s.f c 4 := by
  unfold Ar.ppop
  rw [paired_f4, Ar.endNode_f hb hx, if_neg (fun e => by omega)]
theorem PHeap.cut (h : PHeap s r N) (hl : N.length ≤ 300) (hx : x ∈ N) (h4 : ∀ n ∈ N, s.f n 4 = 0) :
    ∃ M, PHeap (s.pcut r (s.f x 6)).1 (s.pcut r (s.f x 6)).2 M ∧ CutR s (s.pcut r (s.f x 6)).1 N (s.f x 6) x M ∧ ∀ c, (s.pcut r (s.f x 6)).1.f c 4 = s.f c 4 := by
  obtain ⟨k, hf, hb, hm, hr⟩ := id h
  have hx1 := hb.ne hx
  have h9 := hb.node9 hx
  have hd := hf.nd
  have h4x := h4 x hx
  unfold Ar.pcut
  rw [h9, if_neg hx1]
  by_cases hxr : x = r
  · rw [if_pos (.inl hxr)]
    subst hxr
    have hN := List.perm_cons_erase hx
    obtain ⟨c1, c2, c3, _⟩ := h.pop hx1 hN
    have e4 := ppop_f4 hb hx
    have hxM := (List.nodup_cons.1 (hN.nodup_iff.1 hd)).1
    refine ⟨_, c1, ⟨s, hN, Frm.refl _ _, hb, rfl, c2.frm.up hN hd, by rw [c2.hi x 6 (by decide), Ar.endNode_f hb hx, if_neg (fun e => by omega)], by rw [e4, h4x]; omega, by rw [e4, h4x]; omega⟩, e4⟩
  · obtain ⟨N1, N2, a1, a2, a3, a4, a5, a6⟩ := pleave_two hf hb hm hr hx hxr ⟨fun _ _ _ => rfl, .inl rfl⟩
    rw [if_neg (fun e => by rcases e with e | e; exact hxr e; exact a5 e)]
    have hb1 := a2.base hb
    have hs := mem_split a1
    have hh := hb1.halves hd a1
    have hxN2 : x ∈ N2 := (a4.least hx1).1
    have hN2 := List.perm_cons_erase hxN2
    obtain ⟨c1, c2, c3, _⟩ := a4.pop hx1 hN2
    have e4 := ppop_f4 hb1 hx
    generalize hM2 : N2.erase x = M2 at *
    have hsM2 : ∀ y ∈ M2, y ∈ N2 := fun y hy => hN2.mem_iff.2 (by simp [hy])
    have hperm : N.Perm (x :: (N1 ++ M2)) := a1.trans ((hN2.append_left N1).trans List.perm_middle)
    have e6 : (s.pleave x).f x 6 = s.f x 6 := a2.hi x 6 (by decide)
    have hbe := hb1.endNode hd hperm
    have hx1' : x ∉ N1 := fun e => hh.1 x e hxN2
    have same : Same (s.pleave x) ((s.pleave x).ppop x).1 N1 := by
      have ef := Ar.endNode_f hb1 hx
      have hne : ∀ c ∈ N1, c ≠ x := fun c hc e => hx1' (e ▸ hc)
      refine Same.trans (s1 := (s.pleave x).endNode x) ⟨fun c hc => Ar.endNode_has hb1 hx c (hne c hc), fun c hc => Ar.endNode_has hb1 hx _ (hb1.di x hx c (hs.1 c hc)), fun c hc j hj => by rw [ef, if_neg (fun e => by omega)], fun c hc => ⟨by rw [ef, if_neg (fun e => by omega)], by rw [ef, if_neg (fun e => by omega)], ?_⟩⟩ (c2.frm.same_of (fun y hy e => hh.1 y hy (hsM2 y e)) fun y hy m hm2 e => ?_)
      · rw [ef, if_neg (fun e => by exact hne c hc (hb1.inj6 (hs.1 c hc) hx e.1))]
      · rw [ef, ef, if_neg (fun e => by omega), if_neg (fun e => by omega)] at e
        exact hh.1 y hy (by rw [← hb1.inj6 (hs.2 m (hsM2 m hm2)) (hs.1 y hy) e]; exact hsM2 m hm2)
    have g3 := a3.same same
    have hbp : Base ((s.pleave x).ppop x).1 (N1 ++ M2) := c2.base hbe
    have hdM : (N1 ++ M2).Nodup := (List.nodup_cons.1 (hperm.nodup_iff.1 hd)).2
    have hh2 := hbp.halves hdM (List.Perm.refl _)
    obtain ⟨j1, j2⟩ := g3.meld hh2.1 hh2.2 c1
    have hsub : ∀ y ∈ N1 ++ M2, y ∈ N := fun y hy => hperm.mem_iff.2 (by simp at hy ⊢; exact .inr hy)
    have f4 : ∀ c, (((s.pleave x).ppop x).1.plink r ((s.pleave x).ppop x).2.1).1.f c 4 = s.f c 4 := fun c => by rw [plink_f4, e4, a6]
    refine ⟨_, j1, ⟨s.pleave x, hperm, a2.frm, hb1, e6, ((c2.mono fun y hy => hs.2 y (hsM2 y hy)).trans (j2.mono hsub)).frm, ?_, ?_, ?_⟩, f4⟩
    · rw [j2.hi x 6 (by decide), c2.hi x 6 (by decide), Ar.endNode_f hb1 hx, if_neg (fun e => by omega), e6]
    · rw [f4, h4x]; omega
    · rw [f4, h4x]; omega
end
end Go.Proofs.YtognmhgdegpdiaaGreat
end
section
/- Fibonacci heaps: a node is cut, and those above it that lost one ahead. -/
namespace Go.Proofs.YtognmhgdegpdiaaGreat
set_option linter.unusedVariables false
set_option linter.unusedSimpArgs false
def Ar.fleave (s : Ar) (r n up : Int) : Ar :=
  (((if (s.cout n).2.cell up 1 = n then (s.cout n).2.put up 1 (s.cout n).1 else (s.cout n).2).put up 4 ((if (s.cout n).2.cell up 1 = n then (s.cout n).2.put up 1 (s.cout n).1 else (s.cout n).2).get up 4 - 1)).put n 0 (-1)).cput r n
def Ar.fcut (r : Int) : Nat → Ar → Int → Int → Ar
  | 0, s, _, _ => s
  | f + 1, s, n, up => if up = -1 then s else if (s.fleave r n up).cell up 0 ≠ -1 ∧ (s.fleave r n up).get up 5 = 0 then (s.fleave r n up).put up 5 1 else Ar.fcut r f (s.fleave r n up) up ((s.fleave r n up).cell up 0)
def Ar.ffall (s : Ar) (r i : Int) : Ar × Int := if s.cell i 9 = -1 ∨ s.cell i 9 = r then (s, r) else if s.cell (s.cell i 9) 0 = -1 then (s, s.flesser r (s.cell i 9)) else if s.nbefore (s.cell i 9) (s.cell (s.cell i 9) 0) = false then (s, r)
  else (Ar.fcut r (s.n + 1) s (s.cell i 9) (s.cell (s.cell i 9) 0), (Ar.fcut r (s.n + 1) s (s.cell i 9) (s.cell (s.cell i 9) 0)).flesser r (s.cell i 9))
def Ar.fupd (s : Ar) (r n : Int) : Ar := if s.cell n 0 = -1 then s else Ar.fcut r (s.n + 1) s n (s.cell n 0)
def Ar.fgone (s : Ar) (r i : Int) : Ar × Int := if s.cell i 9 = -1 then (s, r) else (((s.fupd r (s.cell i 9)).fpop (s.cell i 9)).1, ((s.fupd r (s.cell i 9)).fpop (s.cell i 9)).2.1)
structure FCut (v : Int → V3i) (s : Ar) (R N : List Int) (k : Int → List Int) : Prop where
  f : Forest v R N k
  b : Base s N
  m : FMem s N k
  rk : FRk s N k
  rt : FRt s R
section
variable {s : Ar} {v : Int → V3i} {R Q N M l : List Int} {k : Int → List Int} {x n m p r i key : Int}
theorem FAll.cut (h : FAll s s R N k) : FCut s.iv s R N k := ⟨h.f, h.b, h.m, h.rk, h.rt⟩
theorem FCut.all (h : FCut v s R N k) (hv : Forest s.iv R N k) : FAll s s R N k := ⟨Str.refl _ _, hv, h.b, h.m, h.rk, h.rt⟩
theorem FCut.permR (h : FCut v s R N k) {R' : List Int} (hR : R.Perm R') : FCut v s R' N k := ⟨h.f.permR hR, h.b, h.m, h.rk, fun n hn => h.rt n (hR.mem_iff.2 hn)⟩
theorem fleave_law (h : FCut v s (r :: l) N k) (hg : Pth s r l r) (hp : p ∈ N) (hn : n ∈ k p) :
    ∃ k', Str s (s.fleave r n p) N ∧ FCut v (s.fleave r n p) (r :: n :: l) N k' ∧ Pth (s.fleave r n p) r (n :: l) r := by
  have hnN := h.f.kid hp hn
  obtain ⟨A, B, hk⟩ := List.append_of_mem hn
  have hring := h.m.kc p hp
  have hndK := h.f.ndK hp
  rw [hk] at hring hndK
  have hkN : ∀ y ∈ A ++ n :: B, y ∈ N := fun y hy => h.f.kid hp (by rw [hk]; exact hy)
  have hkr : ∀ y ∈ A ++ n :: B, y ∉ r :: l := fun y hy e => h.f.notkid e hp (by rw [hk]; exact hy)
  have hturn := hring.turn
  have hnd2 : (n :: B ++ A).Nodup := (List.perm_append_comm (l₁ := A) (l₂ := n :: B)).nodup_iff.1 hndK
  have hmem2 : ∀ y, y ∈ n :: B ++ A ↔ y ∈ A ++ n :: B := fun y => (List.perm_append_comm (l₁ := n :: B) (l₂ := A)).mem_iff
  have hlN : ∀ x ∈ r :: l, x ∈ N := fun x hx => h.f.root hx
  have hnp : n ≠ p := fun e => h.f.self hp (e ▸ hn)
  have hnr : n ∉ r :: l := hkr n (by simp)
  obtain ⟨g1, g2, g3, g4, g5⟩ := cout_law (l := B ++ A) hturn.2 hnd2 (fun x hx => h.b.has x (hkN x ((hmem2 x).1 hx)))
  have s1 := g5 N fun x hx => hkN x ((hmem2 x).1 hx)
  have hb1 := s1.base h.b
  have hp1 : s.f p 1 ∈ A ++ n :: B := by
    rcases hring.at_ with e | e
    · cases A with
      | nil => exact absurd (hring.1.symm.trans e) (h.b.ne hnN)
      | cons a A => exact absurd (hring.1.symm.trans e) (h.b.ne (hkN a (by simp)))
    · exact e
  have e11 : (s.cout n).2.f p 1 = s.f p 1 := g3 p 1 (by decide) (by decide)
  have c1 : (s.cout n).2.cell p 1 = s.f p 1 := by rw [hb1.cell hp (by rw [e11]; exact .inr (hkN _ hp1)), e11]
  -- the children are told anew
  obtain ⟨s2, hs2⟩ : ∃ s2, (if (s.cout n).2.cell p 1 = n then (s.cout n).2.put p 1 (s.cout n).1 else (s.cout n).2) = s2 := ⟨_, rfl⟩
  have key2 : Str s s2 N ∧ Rg s2 (s2.f p 1) (A ++ B) ∧ (∀ c j, (c ≠ p ∨ j ≠ 1) → s2.f c j = (s.cout n).2.f c j) := by
    rw [← hs2, c1]
    by_cases e : s.f p 1 = n
    · rw [if_pos e]
      have hA : A = [] := by
        cases A with
        | nil => rfl
        | cons a A =>
          have e2 : s.f p 1 = a := hring.1
          rw [List.cons_append, List.nodup_cons] at hndK
          exact absurd (by rw [← e2, e]; simp) hndK.1
      have ef : ∀ c j, ((s.cout n).2.put p 1 (s.cout n).1).f c j = if c = p ∧ j = 1 then (s.cout n).1 else (s.cout n).2.f c j := fun c j => by
        rw [Ar.put_f]; simp only [hb1.has p hp, true_and]
      refine ⟨s1.trans (Str.put _ _ hp (by decide)), ?_, fun c j hcj => by rw [ef, if_neg (fun e => by rcases hcj with h | h; exact h e.1; exact h e.2)]⟩
      rw [ef, if_pos ⟨rfl, rfl⟩, hA, List.nil_append]
      rw [hA, List.append_nil] at g1
      exact Rg.congr (fun x _ => ⟨by rw [ef, if_neg (fun e => by omega)], by rw [ef, if_neg (fun e => by omega)]⟩) g1
    · rw [if_neg e]
      refine ⟨s1, ?_, fun _ _ _ => rfl⟩
      cases A with
      | nil => exact absurd hring.1 e
      | cons a A =>
        rw [e11, show s.f p 1 = a from hring.1]
        exact g1.turn
  obtain ⟨t1, t2, t3⟩ := key2
  have hb2 := t1.base h.b
  have t4 : s2.get p 4 = s.f p 4 := by rw [Ar.get_f (hb2.has p hp), t3 p 4 (.inr (by decide)), g3 p 4 (by decide) (by decide)]
  unfold Ar.fleave
  rw [hs2, t4]
  have ef : ∀ c j, ((s2.put p 4 (s.f p 4 - 1)).put n 0 (-1)).f c j = if c = n ∧ j = 0 then -1 else if c = p ∧ j = 4 then s.f p 4 - 1 else s2.f c j := fun c j => by
    simp only [Ar.put_f, Ar.put_has, hb2.has p hp, hb2.has n hnN, true_and]
  have s3 : Str s ((s2.put p 4 (s.f p 4 - 1)).put n 0 (-1)) N := (t1.trans (Str.put _ _ hp (by decide))).trans (Str.put _ _ hnN (by decide))
  generalize (s2.put p 4 (s.f p 4 - 1)).put n 0 (-1) = s3' at *
  have hb3 := s3.base h.b
  have e23 : ∀ c j, (j = 2 ∨ j = 3) → s3'.f c j = (s.cout n).2.f c j := fun c j hj => by rw [ef, if_neg (fun e => by omega), if_neg (fun e => by omega), t3 c j (.inr (by omega))]
  have er : ∀ c ∈ r :: l, ∀ j, (j = 2 ∨ j = 3) → s3'.f c j = s.f c j := fun c hc j hj => by
    rw [e23 c j hj, g4 c (fun e => hkr c ((hmem2 c).1 e) hc)]
  have hg3 : Pth s3' r l r := Pth.congr (fun x hx => er x hx 3 (.inr rfl)) (fun x hx => er x (by simp [hx]) 2 (.inl rfl)) (er r (by simp) 2 (.inl rfl)) hg
  obtain ⟨j1, j2, j3, j4⟩ := cput_law hg3 h.f.ndR hnr (fun x hx => hb3.has x (hlN x hx)) (hb3.has n hnN)
  have s4 := s3.trans (j4 N hnN hlN)
  have hl2 : (k p).Perm (n :: (A ++ B)) := by rw [hk]; exact List.perm_middle
  have hf1 := h.f.cut hp hl2
  have hpR : (n :: r :: l).Perm (r :: n :: l) := List.Perm.swap _ _ _
  have ho : ∀ x ∈ N, ∀ y ∈ updI k p (A ++ B) x, y ∉ n :: r :: l := fun x hx y hy e => hf1.notkid e hx hy
  refine ⟨_, s4, ⟨hf1.permR hpR, s4.base h.b, ⟨fun x hx => ?_, fun x hx y hy => ?_⟩, fun x hx => ?_, fun x hx => ?_⟩, j1⟩
  · rw [j3 x 1 (by decide) (by decide), ef, if_neg (fun e => by omega), if_neg (fun e => by omega)]
    refine Rg.congr (fun y hy => ⟨j2 y (ho x hx y hy) 2, j2 y (ho x hx y hy) 3⟩) ?_
    by_cases hxp : x = p
    · subst hxp
      rw [updI_same]
      exact Rg.congr (fun y _ => ⟨by rw [ef, if_neg (fun e => by omega), if_neg (fun e => by omega)], by rw [ef, if_neg (fun e => by omega), if_neg (fun e => by omega)]⟩) t2
    · rw [updI_ne _ _ hxp, t3 x 1 (.inl hxp), g3 x 1 (by decide) (by decide)]
      refine Rg.congr (fun y hy => ?_) (h.m.kc x hx)
      have hyk : y ∉ n :: (B ++ A) := fun e => hxp (h.f.once hx hp hy (by rw [hk]; exact (hmem2 y).1 e))
      rw [e23 y 2 (.inl rfl), e23 y 3 (.inr rfl), g4 y hyk, g4 y hyk]
      exact ⟨rfl, rfl⟩
  · have hyn := ho x hx y hy
    have hyn1 : y ≠ n := fun e => hyn (by simp [e])
    rw [j3 y 0 (by decide) (by decide), ef, if_neg (fun e => by exact hyn1 e.1), if_neg (fun e => by omega), t3 y 0 (.inr (by decide)), g3 y 0 (by decide) (by decide)]
    by_cases hxp : x = p
    · subst hxp
      rw [updI_same] at hy
      exact h.m.up _ hx y (hl2.mem_iff.2 (by simp at hy ⊢; exact .inr hy))
    · rw [updI_ne _ _ hxp] at hy
      exact h.m.up x hx y hy
  · rw [j3 x 4 (by decide) (by decide), ef, if_neg (fun e => by omega)]
    by_cases hxp : x = p
    · subst hxp
      rw [if_pos ⟨rfl, rfl⟩, updI_same, h.rk x hx, hl2.length_eq, List.length_cons]
      omega
    · rw [if_neg (fun e => by exact hxp e.1), updI_ne _ _ hxp, t3 x 4 (.inr (by decide)), g3 x 4 (by decide) (by decide)]
      exact h.rk x hx
  · rw [j3 x 0 (by decide) (by decide), ef]
    split
    · rfl
    · rename_i hx2
      rw [if_neg (fun e => by omega), t3 x 0 (.inr (by decide)), g3 x 0 (by decide) (by decide)]
      have : x ∈ n :: r :: l := hpR.mem_iff.2 hx
      rcases List.mem_cons.1 this with e | e
      · exact absurd ⟨e, rfl⟩ hx2
      · exact h.rt x e
theorem FCut.mark (h : FCut v s R N k) (hp : p ∈ N) (a : Int) : FCut v (s.put p 5 a) R N k ∧ Str s (s.put p 5 a) N ∧ ∀ c j, j ≠ 5 → (s.put p 5 a).f c j = s.f c j := by
  have eo : ∀ c j, j ≠ 5 → (s.put p 5 a).f c j = s.f c j := fun c j hj => by rw [Ar.put_f, if_neg (fun e => by exact hj e.2.2)]
  have hs : Str s (s.put p 5 a) N := Str.put s _ hp (by decide)
  exact ⟨⟨h.f, hs.base h.b, h.m.congr (fun n hn m => h.f.kid hn) (fun c _ => eo c 1 (by decide)) (fun _ _ c _ => ⟨eo c 2 (by decide), eo c 3 (by decide), eo c 0 (by decide)⟩), fun n hn => by rw [eo n 4 (by decide)]; exact h.rk n hn, fun n hn => by rw [eo n 0 (by decide)]; exact h.rt n hn⟩, hs, eo⟩
theorem fcut_law {N : List Int} {r : Int} : ∀ (f : Nat) (s : Ar) (n up : Int) (k : Int → List Int) (l A : List Int), FCut v s (r :: l) N k → Pth s r l r → n ∈ N → (up = -1 ∨ (up ∈ N ∧ n ∈ k up)) → A.Nodup → (∀ a ∈ A, a ∈ N ∧ lt3 (v n) (v a)) → N.length + 1 ≤ A.length + f →
    ∃ k' l', Str s (Ar.fcut r f s n up) N ∧ FCut v (Ar.fcut r f s n up) (r :: l') N k' ∧ Pth (Ar.fcut r f s n up) r l' r ∧ (∀ x ∈ l, x ∈ l') ∧ (up ≠ -1 → n ∈ l') := by
  intro f
  induction f with
  | zero =>
    intro s n up k l A h hg hn hup hd hA hl
    have := nodup_sub A N hd fun a ha => (hA a ha).1
    omega
  | succ f ih =>
    intro s n up k l A h hg hn hup hd hA hl
    unfold Ar.fcut
    by_cases hu : up = -1
    · rw [if_pos hu]
      exact ⟨k, l, Str.refl _ _, h, hg, fun _ hx => hx, fun e => absurd hu e⟩
    · rw [if_neg hu]
      obtain ⟨hp, hnk⟩ := hup.resolve_left hu
      obtain ⟨k1, g1, g2, g3⟩ := fleave_law h hg hp hnk
      have hlt := h.f.ord _ hp _ hnk
      have hq : (s.fleave r n up).f up 0 = -1 ∨ ((s.fleave r n up).f up 0 ∈ N ∧ up ∈ k1 ((s.fleave r n up).f up 0)) := by
        rcases g2.f.where_ hp with h1 | ⟨q, hq, h1⟩
        · exact .inl (g2.rt up h1)
        · have := g2.m.up q hq up h1
          rw [this]; exact .inr ⟨hq, h1⟩
      have hc : (s.fleave r n up).cell up 0 = (s.fleave r n up).f up 0 := g2.b.cell hp (hq.imp id (·.1))
      split
      · obtain ⟨a, b, c⟩ := g2.mark hp 1
        exact ⟨k1, n :: l, g1.trans b, a, Pth.congr (fun x _ => c x 3 (by decide)) (fun x _ => c x 2 (by decide)) (c r 2 (by decide)) g3, fun x hx => by simp [hx], fun _ => by simp⟩
      · have hdA : (n :: A).Nodup := List.nodup_cons.2 ⟨fun e => lt3_irrefl _ (hA n e).2, hd⟩
        have hA' : ∀ a ∈ n :: A, a ∈ N ∧ lt3 (v up) (v a) := fun a ha => by
          rcases List.mem_cons.1 ha with e | e
          · rw [e]; exact ⟨hn, hlt⟩
          · exact ⟨(hA a e).1, lt3_trans hlt (hA a e).2⟩
        obtain ⟨k', l', i1, i2, i3, i4, _⟩ := ih (s.fleave r n up) up ((s.fleave r n up).cell up 0) k1 (n :: l) (n :: A) g2 g3 hp (by rw [hc]; exact hq) hdA hA' (by rw [List.length_cons]; omega)
        exact ⟨k', l', g1.trans i1, i2, i3, fun x hx => i4 x (by simp [hx]), fun _ => i4 n (by simp)⟩
theorem FCut.up0 (h : FCut v s R N k) (hx : x ∈ N) : s.cell x 0 = s.f x 0 ∧ ((s.f x 0 = -1 ∧ x ∈ R) ∨ (s.f x 0 ∈ N ∧ x ∈ k (s.f x 0) ∧ x ∉ R)) := by
  rcases h.f.where_ hx with h1 | ⟨p, hp, h1⟩
  · have h2 := h.rt x h1
    exact ⟨by rw [h.b.cell hx (.inl h2)], .inl ⟨h2, h1⟩⟩
  · have h2 := h.m.up p hp x h1
    exact ⟨by rw [h.b.cell hx (by rw [h2]; exact .inr hp)], .inr ⟨by rw [h2]; exact hp, by rw [h2]; exact h1, fun e => h.f.notkid e hp h1⟩⟩
theorem FHeap.ring (h : FHeap s r N) (hr : r ≠ -1) : ∃ k l, FAll s s (r :: l) N k ∧ Pth s r l r ∧ ∀ m ∈ r :: l, m ≠ r → lt3 (s.iv r) (s.iv m) := by
  obtain ⟨k, R, h, hg, hl⟩ := h
  cases R with
  | nil => exact absurd hg hr
  | cons x l =>
    have e : r = x := hg.1
    subst e
    exact ⟨k, l, h, hg.2, hl⟩
theorem FHeap.fall (h : FHeap s r N) (hx : x ∈ N) (hk : key ≤ s.f (s.f x 6) 7) :
    FHeap ((s.put (s.f x 6) 7 key).ffall r (s.f x 6)).1 ((s.put (s.f x 6) 7 key).ffall r (s.f x 6)).2 N ∧ Str (s.put (s.f x 6) 7 key) ((s.put (s.f x 6) 7 key).ffall r (s.f x 6)).1 N := by
  have hr : r ≠ -1 := fun e => by rw [e] at h; rw [h.empty] at hx; cases hx
  have hleast := (h.least hr).2
  have hrN := (h.least hr).1
  obtain ⟨k, l, h, hg, hl⟩ := h.ring hr
  have hb := h.b
  obtain ⟨hb', hlow, eo, eh⟩ := hb.lower hx hk
  have e6 : (s.put (s.f x 6) 7 key).f x 6 = s.f x 6 := eo x 6 (by decide)
  have h9 := hb'.node9 hx
  rw [e6] at h9
  have hc : FCut s.iv (s.put (s.f x 6) 7 key) (r :: l) N k := ⟨h.f, hb', h.m.congr (fun n hn m => h.f.kid hn) (fun c _ => eo c 1 (by decide)) (fun _ _ c _ => ⟨eo c 2 (by decide), eo c 3 (by decide), eo c 0 (by decide)⟩), fun n hn => by rw [eo n 4 (by decide)]; exact h.rk n hn, fun n hn => by rw [eo n 0 (by decide)]; exact h.rt n hn⟩
  have hg' : Pth (s.put (s.f x 6) 7 key) r l r := Pth.congr (fun x _ => eo x 3 (by decide)) (fun x _ => eo x 2 (by decide)) (eo r 2 (by decide)) hg
  generalize s.put (s.f x 6) 7 key = s1 at *
  have hx1 := hb.ne hx
  unfold Ar.ffall
  rw [h9]
  -- the others lie as they did
  have hoth : ∀ s2 : Ar, Str s1 s2 N → x ≠ r → ∀ m ∈ N, m ≠ r → m ≠ x → lt3 (s2.iv r) (s2.iv m) := fun s2 hs hxr m hm hmr hmx => by
    rw [hs.ivf, hlow.eq r hrN (Ne.symm hxr), hlow.eq m hm hmx]
    exact hleast m hm hmr
  by_cases hxr : x = r
  · rw [if_pos (.inr hxr)]
    refine ⟨⟨k, r :: l, hc.all (h.f.low (by rw [hxr]; simp) hlow hb'.inj), ⟨rfl, hg'⟩, fun m hm hmr => ?_⟩, Str.refl _ _⟩
    have h1 := hl m hm hmr
    rw [hlow.eq m (h.f.root hm) (by rw [hxr]; exact hmr)]
    rw [← hxr] at h1 ⊢
    exact le3_lt hlow.le h1
  · rw [if_neg (fun e => by rcases e with e | e; exact hx1 e; exact hxr e)]
    obtain ⟨c0, hcase⟩ := hc.up0 hx
    rw [c0]
    rcases hcase with ⟨u1, u2⟩ | ⟨u1, u2, u3⟩
    · rw [if_pos u1]
      refine ⟨FHeap.lesser (hc.all (h.f.low u2 hlow hb'.inj)) ⟨rfl, hg'⟩ (by simp) u2 (Ne.symm hxr) (fun m hm => ?_), Str.refl _ _⟩
      by_cases hmx : m = x
      · exact .inr (.inl hmx)
      · by_cases hmr : m = r
        · exact .inl (.inl hmr)
        · exact .inl (.inr (hoth s1 (Str.refl _ _) hxr m (h.f.root hm) hmr hmx))
    · have hu1 := hb.ne u1
      rw [if_neg hu1]
      have hxu : x ≠ s1.f x 0 := fun e => h.f.self u1 (by rw [← e] at u2 ⊢; exact u2)
      cases hbf : s1.nbefore x (s1.f x 0) with
      | false =>
        rw [if_pos rfl]
        have hlt := (hb'.nbefore hx u1 hxu).1 hbf
        refine ⟨⟨k, r :: l, hc.all (h.f.low_in u1 u2 hlow hb'.inj hlt), ⟨rfl, hg'⟩, fun m hm hmr => ?_⟩, Str.refl _ _⟩
        exact hoth s1 (Str.refl _ _) hxr m (h.f.root hm) hmr fun e => u3 (e ▸ hm)
      | true =>
        rw [if_neg (by decide)]
        have hlen := hb.le h.f.nd fun x hx => hx
        have hn1 : s1.n + 1 ≥ N.length + 1 := by have := hb'.le h.f.nd fun x hx => hx; omega
        obtain ⟨k', l', i1, i2, i3, _, i5⟩ := fcut_law (s1.n + 1) s1 x (s1.f x 0) k l [] hc hg' hx (.inr ⟨u1, u2⟩) List.nodup_nil (by simp) (by simp only [List.length_nil]; omega)
        have hxl : x ∈ r :: l' := by simp [i5 hu1]
        have hF : Forest (Ar.fcut r (s1.n + 1) s1 x (s1.f x 0)).iv (r :: l') N k' := by rw [i1.ivf]; exact i2.f.low hxl hlow hb'.inj
        refine ⟨FHeap.lesser (i2.all hF) ⟨rfl, i3⟩ (by simp) hxl (Ne.symm hxr) (fun m hm => ?_), i1⟩
        by_cases hmx : m = x
        · exact .inr (.inl hmx)
        · by_cases hmr : m = r
          · exact .inl (.inl hmr)
          · exact .inl (.inr (hoth _ i1 hxr m (hF.root hm) hmr hmx))
theorem FHeap.cut (h : FHeap s r N) (hl : N.length ≤ 300) (hx : x ∈ N) :
    ∃ M, FHeap (s.fgone r (s.f x 6)).1 (s.fgone r (s.f x 6)).2 M ∧ CutR s (s.fgone r (s.f x 6)).1 N (s.f x 6) x M ∧ Str s (s.fupd r x) N ∧ (∀ y ∈ N, 0 ≤ (s.fupd r x).f y 4 ∧ (s.fupd r x).f y 4 ≤ 300) ∧ ((s.fupd r x).frest x).length < N.length ∧ ((s.fupd r x).fkids x).length ≤ ((s.fupd r x).frest x).length := by
  have hr : r ≠ -1 := fun e => by rw [e] at h; rw [h.empty] at hx; cases hx
  obtain ⟨k, l, h, hg, _⟩ := h.ring hr
  have hb := h.b
  have hx1 := hb.ne hx
  have h9 := hb.node9 hx
  have hd := h.f.nd
  unfold Ar.fgone
  rw [h9, if_neg hx1]
  have key : ∃ k' l', Str s (s.fupd r x) N ∧ FAll (s.fupd r x) (s.fupd r x) (r :: l') N k' ∧ Pth (s.fupd r x) r l' r ∧ x ∈ r :: l' := by
    unfold Ar.fupd
    obtain ⟨c0, hcase⟩ := h.cut.up0 hx
    rw [c0]
    rcases hcase with ⟨u1, u2⟩ | ⟨u1, u2, u3⟩
    · rw [if_pos u1]; exact ⟨k, l, Str.refl _ _, h, hg, u2⟩
    · have hu1 := hb.ne u1
      rw [if_neg hu1]
      have hlen := hb.le h.f.nd fun x hx => hx
      obtain ⟨k', l', i1, i2, i3, _, i5⟩ := fcut_law (s.n + 1) s x (s.f x 0) k l [] h.cut hg hx (.inr ⟨u1, u2⟩) List.nodup_nil (by simp) (by simp only [List.length_nil]; omega)
      exact ⟨k', l', i1, i2.all (by rw [i1.ivf]; exact i2.f), i3, by simp [i5 hu1]⟩
  obtain ⟨k', l', i1, i2, i3, i4⟩ := key
  obtain ⟨A, B, hR⟩ := List.append_of_mem i4
  have hrg : Rg (s.fupd r x) r (A ++ x :: B) := by rw [← hR]; exact ⟨rfl, i3⟩
  have i2' : FAll (s.fupd r x) (s.fupd r x) (x :: (B ++ A)) N k' := i2.permR (by rw [hR]; exact List.perm_append_comm)
  have hN := List.perm_cons_erase hx
  obtain ⟨j1, j2, j3, j4, j5, j6⟩ := fpop_law i2' hrg.turn.2 hN
  have hrk : ∀ y ∈ N, 0 ≤ (s.fupd r x).f y 4 ∧ (s.fupd r x).f y 4 ≤ 300 := fun y hy => by have := i2.rank hy; omega
  have e6 : (s.fupd r x).f x 6 = s.f x 6 := i1.hi x 6 (by decide)
  refine ⟨_, j1, ⟨s.fupd r x, hN, i1.frm, i2.b, e6, j2.frm, ?_, ?_, ?_⟩, i1, hrk, j4, j5⟩
  · rw [j2.hi x 6 (by decide), Ar.endNode_f i2.b hx, if_neg (fun e => by omega), e6]
  · rw [j6]; exact (hrk x hx).1
  · rw [j6]; exact (hrk x hx).2
end
end Go.Proofs.YtognmhgdegpdiaaGreat
end
section
/- Rows of trees: an item rises; a root whose item has risen goes. -/
namespace Go.Proofs.YtognmhgdegpdiaaGreat
set_option linter.unusedVariables false
set_option linter.unusedSimpArgs false
def Ar.rise (any : Bool) : Nat → Ar → Int → Ar × Int
  | 0, s, n => (s, n)
  | f + 1, s, n => if n = -1 ∨ s.cell n 0 = -1 ∨ (any = false ∧ s.nbefore n (s.cell n 0) = false) then (s, n) else Ar.rise any f (s.swapItem n (s.cell n 0)) (s.cell n 0)
def Ar.tfall (s : Ar) (r i : Int) : Ar × Int := ((Ar.rise false (s.n + 1) s (s.cell i 9)).1, r)
def Ar.trise (s : Ar) (i : Int) : Ar × Int := Ar.rise true (s.n + 1) s (s.cell i 9)
def Ar.bcut (s : Ar) (r i : Int) : Ar × Int := if s.cell i 9 = -1 then (s, r) else if (s.trise i).2 ∈ (s.trise i).1.tlist r then (s.trise i).1.bwo ((s.trise i).1.tlist r) (s.trise i).2 else ((s.trise i).1, r)
def Ar.scut (s : Ar) (r i : Int) : Ar × Int := if s.cell i 9 = -1 then (s, r) else if (s.trise i).2 ∈ (s.trise i).1.tlist r then (s.trise i).1.swo ((s.trise i).1.tlist r) (s.trise i).2 else ((s.trise i).1, r)
theorem rise_law {v0 : Int → V3i} {R N : List Int} {k : Int → List Int} {any : Bool} (hf : Forest v0 R N k) : ∀ (f : Nat) (s : Ar) (n : Int) (A : List Int), Base s N → (∀ x ∈ N, ∀ m ∈ k x, s.f m 0 = x) → (∀ x ∈ R, s.f x 0 = -1) → Hole s.iv N k n → n ∈ N → (any = false → ∀ c ∈ k n, lt3 (s.iv n) (s.iv c)) → A.Nodup → (∀ a ∈ A, a ∈ N ∧ lt3 (v0 n) (v0 a)) → N.length + 1 ≤ A.length + f →
    Frm s (Ar.rise any f s n).1 N ∧ Base (Ar.rise any f s n).1 N ∧ (∀ x j, j ≤ 5 → (Ar.rise any f s n).1.f x j = s.f x j) ∧ (Ar.rise any f s n).2 ∈ N ∧ Hole (Ar.rise any f s n).1.iv N k (Ar.rise any f s n).2 ∧ (Ar.rise any f s n).1.f (Ar.rise any f s n).2 6 = s.f n 6 ∧
      (any = true → (Ar.rise any f s n).2 ∈ R) ∧ (any = false → Forest (Ar.rise any f s n).1.iv R N k) := by
  intro f
  induction f with
  | zero =>
    intro s n A hb hu hr hh hn ho hd hA hl
    have := nodup_sub A N hd fun a ha => (hA a ha).1
    omega
  | succ f ih =>
    intro s n A hb hu hr hh hn ho hd hA hl
    have hn1 := hb.ne hn
    unfold Ar.rise
    have hw : (s.f n 0 = -1 ∧ n ∈ R) ∨ (s.f n 0 ∈ N ∧ n ∈ k (s.f n 0) ∧ s.f n 0 ≠ -1) := by
      rcases hf.where_ hn with h | ⟨p, hp, h⟩
      · exact .inl ⟨hr n h, h⟩
      · have h2 := hu p hp n h
        rw [h2]; exact .inr ⟨hp, h, hb.ne hp⟩
    have hc : s.cell n 0 = s.f n 0 := hb.cell hn (hw.imp (·.1) (·.1))
    rw [hc]
    rcases hw with ⟨h0, hnR⟩ | ⟨hp, hnk, h0⟩
    · rw [if_pos (.inr (.inl h0))]
      exact ⟨Frm.refl _ _, hb, fun _ _ _ => rfl, hn, hh, rfl, fun _ => hnR, fun e => hh.close hf hb.inj (ho e) fun x hx e2 => absurd e2 (hf.notkid hnR hx)⟩
    · have hnp : n ≠ s.f n 0 := fun e => hf.self hp (by rw [← e] at hnk ⊢; exact hnk)
      by_cases hst : any = false ∧ s.nbefore n (s.f n 0) = false
      · rw [if_pos (.inr (.inr hst))]
        have hlt := (hb.nbefore hn hp hnp).1 hst.2
        exact ⟨Frm.refl _ _, hb, fun _ _ _ => rfl, hn, hh, rfl, fun e => (by rw [hst.1] at e; cases e), fun e => hh.close hf hb.inj (ho e) fun x hx e2 => by rw [hf.once hx hp e2 hnk]; exact hlt⟩
      · rw [if_neg (fun e => by rcases e with e | e | e; exact hn1 e; exact h0 e; exact hst e)]
        obtain ⟨g1, g2, g3, g4, g5, g6, g7, g8, g9⟩ := swap_law hb hn hp hnp hf.nd
        have hh' := hh.swap (v' := (s.swapItem n (s.f n 0)).iv) hf hn hp hnk g4 g5 g6
        have e0 : ∀ y, (s.swapItem n (s.f n 0)).f y 0 = s.f y 0 := fun y => g3 y 0 (by decide)
        have hlt0 := hf.ord _ hp _ hnk
        have ho' : any = false → ∀ c ∈ k (s.f n 0), lt3 ((s.swapItem n (s.f n 0)).iv (s.f n 0)) ((s.swapItem n (s.f n 0)).iv c) := fun e => by
          have hbf : s.nbefore n (s.f n 0) = true := by
            cases h : s.nbefore n (s.f n 0) with
            | true => rfl
            | false => exact absurd ⟨e, h⟩ hst
          exact hh.swap_out hf hn hp hnk g4 g5 g6 ((hb.before hn hp).1 hbf)
        obtain ⟨i1, i2, i3, i4, i5, i6, i7, i8⟩ := ih (s.swapItem n (s.f n 0)) (s.f n 0) (n :: A) g2 (fun x hx m hm => by rw [e0]; exact hu x hx m hm) (fun x hx => by rw [e0]; exact hr x hx) hh' hp ho' (List.nodup_cons.2 ⟨fun e => lt3_irrefl _ (hA n e).2, hd⟩) (fun a ha => by
          rcases List.mem_cons.1 ha with e | e
          · rw [e]; exact ⟨hn, hlt0⟩
          · exact ⟨(hA a e).1, lt3_trans hlt0 (hA a e).2⟩) (by rw [List.length_cons]; omega)
        exact ⟨g1.trans i1, i2, fun x j hj => (i3 x j hj).trans (g3 x j hj), i4, i5, i6.trans g8, i7, i8⟩
section
variable {s s' : Ar} {v : Int → V3i} {R Q N M l : List Int} {k : Int → List Int} {x n m p r i key : Int} {c : Nat}
theorem TMem.turn (h : TMem s N k) (h5 : ∀ x j, j ≤ 5 → s'.f x j = s.f x j) : TMem s' N k := h.congr (fun c _ => h5 c 1 (by decide)) fun _ _ c _ => ⟨h5 c 3 (by decide), h5 c 0 (by decide)⟩
theorem TRk.turn (h : TRk s N k c) (h5 : ∀ x j, j ≤ 5 → s'.f x j = s.f x j) : TRk s' N k c := by
  have e4 : ∀ x, s'.f x 4 = s.f x 4 := fun x => h5 x 4 (by decide)
  exact ⟨fun n hn => by rw [e4]; exact h.rk0 n hn, fun n hn => by simp only [e4]; exact h.wt n hn, fun n hn => by simp only [e4]; exact h.kr n hn, fun n hn => by simp only [e4]; exact h.kl n hn, fun n hn => by rw [e4]; exact h.lr n hn⟩
theorem PwR.turn (h : PwR s R) (h5 : ∀ x j, j ≤ 5 → s'.f x j = s.f x j) : PwR s' R := List.Pairwise.imp (fun {a b} hab => by rw [h5 a 4 (by decide), h5 b 4 (by decide)]; exact hab) h
theorem SkR.turn (h : SkR s R) (h5 : ∀ x j, j ≤ 5 → s'.f x j = s.f x j) : SkR s' R := by
  cases R with
  | nil => trivial
  | cons x l => exact ⟨PwR.turn h.1 h5, fun y hy => by rw [h5 x 4 (by decide), h5 y 4 (by decide)]; exact h.2 y hy⟩
theorem tfall_law (h : TAll s R N k c) (hu : ∀ x ∈ R, s.f x 0 = -1) (hx : x ∈ N) (hk : key ≤ s.f (s.f x 6) 7) :
    TAll ((s.put (s.f x 6) 7 key).tfall r (s.f x 6)).1 R N k c ∧ Frm (s.put (s.f x 6) 7 key) ((s.put (s.f x 6) 7 key).tfall r (s.f x 6)).1 N ∧ ∀ x' j, j ≤ 5 → ((s.put (s.f x 6) 7 key).tfall r (s.f x 6)).1.f x' j = s.f x' j := by
  have hb := h.b
  obtain ⟨hb', hlow, eo, eh⟩ := hb.lower hx hk
  have e6 : (s.put (s.f x 6) 7 key).f x 6 = s.f x 6 := eo x 6 (by decide)
  have h9 := hb'.node9 hx
  rw [e6] at h9
  have hlen := hb'.le h.f.nd fun x hx => hx
  unfold Ar.tfall
  rw [h9]
  obtain ⟨i1, i2, i3, i4, i5, i6, i7, i8⟩ := rise_law (any := false) h.f ((s.put (s.f x 6) 7 key).n + 1) (s.put (s.f x 6) 7 key) x [] hb' (fun y hy m hm => by rw [eo m 0 (by decide)]; exact h.m.up y hy m hm) (fun y hy => by rw [eo y 0 (by decide)]; exact hu y hy) (Hole.start h.f hx hlow.eq) hx (fun _ => hlow.out h.f hx) List.nodup_nil (by simp) (by simp only [List.length_nil]; omega)
  have h5 : ∀ x' j, j ≤ 5 → (Ar.rise false ((s.put (s.f x 6) 7 key).n + 1) (s.put (s.f x 6) 7 key) x).1.f x' j = s.f x' j := fun x' j hj => (i3 x' j hj).trans (eo x' j (by omega))
  exact ⟨⟨i8 rfl, i2, h.m.turn h5, h.r.turn h5⟩, i1, h5⟩
theorem BHeap.fall (h : BHeap s r N) (hx : x ∈ N) (hk : key ≤ s.f (s.f x 6) 7) :
    BHeap ((s.put (s.f x 6) 7 key).tfall r (s.f x 6)).1 ((s.put (s.f x 6) 7 key).tfall r (s.f x 6)).2 N ∧ Frm (s.put (s.f x 6) 7 key) ((s.put (s.f x 6) 7 key).tfall r (s.f x 6)).1 N := by
  obtain ⟨k, R, h, hl, hu, hp⟩ := h
  obtain ⟨a, b, c⟩ := tfall_law (r := r) h hu hx hk
  exact ⟨⟨k, R, a, Lk.congr (fun y _ => c y 3 (by decide)) hl, fun y hy => by rw [c y 0 (by decide)]; exact hu y hy, hp.turn c⟩, b⟩
theorem SHeap.fall (h : SHeap s r N) (hx : x ∈ N) (hk : key ≤ s.f (s.f x 6) 7) :
    SHeap ((s.put (s.f x 6) 7 key).tfall r (s.f x 6)).1 ((s.put (s.f x 6) 7 key).tfall r (s.f x 6)).2 N ∧ Frm (s.put (s.f x 6) 7 key) ((s.put (s.f x 6) 7 key).tfall r (s.f x 6)).1 N := by
  obtain ⟨k, R, h, hl, hu, hp⟩ := h
  obtain ⟨a, b, c⟩ := tfall_law (r := r) h hu hx hk
  exact ⟨⟨k, R, a, Lk.congr (fun y _ => c y 3 (by decide)) hl, fun y hy => by rw [c y 0 (by decide)]; exact hu y hy, hp.turn c⟩, b⟩
structure TCut (v : Int → V3i) (s : Ar) (R N : List Int) (k : Int → List Int) (c : Nat) (n : Int) : Prop where
  f : Forest v R N k
  b : Base s N
  m : TMem s N k
  r : TRk s N k c
  h : Hole s.iv N k n
  n : n ∈ R
theorem TCut.kids (h : TCut v s R N k c n) (hx : x ∈ N) : s.tkids x = k x := by
  have hl := h.m.kc x hx
  unfold Ar.tkids
  rw [h.b.cell hx ((Lk.at_ hl).imp id (h.f.kid hx))]
  exact Lk.row hl (fun y hy => h.b.has y (h.f.kid hx hy)) _ (h.b.le (h.f.ndK hx) fun y hy => h.f.kid hx hy)
theorem TCut.end_ (h : TCut v s R N k c n) (hR : R.Perm (n :: Q)) (hN : N.Perm (n :: M)) : TAll (s.endNode n) (k n ++ Q) M k c ∧ ∀ x j, j ≠ 9 → (s.endNode n).f x j = s.f x j := by
  have hnN := h.f.root h.n
  have hsM : ∀ x ∈ M, x ∈ N := fun x hx => hN.mem_iff.2 (by simp [hx])
  have ef : ∀ x j, j ≠ 9 → (s.endNode n).f x j = s.f x j := fun x j hj => by rw [Ar.endNode_f h.b hnN, if_neg (fun e => by exact hj e.2)]
  have e4 : ∀ x, (s.endNode n).f x 4 = s.f x 4 := fun x => ef x 4 (by decide)
  refine ⟨⟨(h.h.drop h.f h.b.inj hR hN).congr (fun x _ => Ar.endNode_iv h.b hnN x) fun _ _ => rfl, h.b.endNode h.f.nd hN, ⟨fun x hx => ?_, fun x hx y hy => ?_⟩, ⟨fun x hx => ?_, fun x hx => ?_, fun x hx => ?_, fun x hx => ?_, fun x hx => ?_⟩⟩, ef⟩
  · rw [ef x 1 (by decide)]
    exact Lk.congr (fun y _ => ef y 3 (by decide)) (h.m.kc x (hsM x hx))
  · rw [ef y 0 (by decide)]; exact h.m.up x (hsM x hx) y hy
  · rw [e4]; exact h.r.rk0 x (hsM x hx)
  · simp only [e4]; exact h.r.wt x (hsM x hx)
  · simp only [e4]; exact h.r.kr x (hsM x hx)
  · simp only [e4]; exact h.r.kl x (hsM x hx)
  · rw [e4]; exact h.r.lr x (hsM x hx)
theorem TCut.bwo (h : TCut v s R N k 1 n) (hN : N.Perm (n :: M)) : BHeap (s.bwo R n).1 (s.bwo R n).2 M ∧ Str (s.endNode n) (s.bwo R n).1 M := by
  obtain ⟨h1, _⟩ := h.end_ (idel_perm h.f.ndR h.n) hN
  obtain ⟨k', R', g1, g2, g3, g4, g5, _⟩ := tcarry_law (l := idel n R ++ k n) [] (Nat.le_refl 1) (by rw [List.append_nil]; exact h1.permR List.perm_append_comm)
  rw [List.append_nil] at g2
  unfold Ar.bwo
  rw [h.kids (h.f.root h.n)]
  exact ⟨⟨k', R', g2, g3, g4, g5⟩, g1⟩
theorem TCut.swo (h : TCut v s R N k 2 n) (hN : N.Perm (n :: M)) : SHeap (s.swo R n).1 (s.swo R n).2 M ∧ Frm (s.endNode n) (s.swo R n).1 M ∧ (s.krest (s.tkids n)).length ≤ (s.f n 4).toNat ∧ (s.tkids n).length ≤ 2 * (s.f n 4).toNat := by
  have hnN := h.f.root h.n
  obtain ⟨h1, e1⟩ := h.end_ (idel_perm h.f.ndR h.n) hN
  have ek := h.kids hnN
  have eg : ∀ x ∈ k n, s.get x 4 = s.f x 4 := fun x hx => Ar.get_f (h.b.has x (h.f.kid hnN hx)) 4
  have hz : ∀ x ∈ s.kzero (k n), k x = [] ∧ (s.endNode n).f x 4 = 0 := fun x hx => by
    obtain ⟨hx1, hx2⟩ := List.mem_filter.1 hx
    have e0 : s.f x 4 = 0 := by rw [← eg x hx1]; simpa using hx2
    refine ⟨?_, by rw [e1 x 4 (by decide)]; exact e0⟩
    have := h.r.kl x (h.f.kid hnN hx1)
    rw [e0] at this
    exact List.length_eq_zero_iff.1 (by simpa using this)
  have hp : (k n ++ idel n R).Perm ((idel n R ++ s.krest (k n)) ++ s.kzero (k n)) := by
    refine ((filter_both (fun x => s.get x 4 == 0) (k n)).append_right _).trans ?_
    unfold Ar.krest Ar.kzero
    refine List.perm_iff_count.2 fun a => ?_
    simp only [List.count_append]
    omega
  obtain ⟨k', R', g1, g2, g3, g4, g5, g6⟩ := tcarry_law (l := idel n R ++ s.krest (k n)) (s.kzero (k n)) (by decide) (h1.permR hp)
  obtain ⟨j1, j2⟩ := sones_law (s.kzero (k n)) _ _ R' k' g2 g3 g4 (PwR.sk g5) fun x hx => ⟨(g6 x hx).1.trans (hz x hx).1, (g6 x hx).2.trans (hz x hx).2⟩
  have hkl := h.r.kl n hnN
  have hkr := h.r.kr n hnN
  have ekr : s.krest (k n) = (k n).filter fun m => !(s.f m 4 == 0) := List.filter_congr fun x hx => by rw [eg x hx]
  unfold Ar.swo
  rw [ek]
  exact ⟨j1, g1.frm.trans j2, by rw [ekr]; exact hkr, hkl⟩
theorem trise_law (h : TAll s R N k c) (hl : Lk s 3 r R) (hu : ∀ x ∈ R, s.f x 0 = -1) (hx : x ∈ N) :
    TCut s.iv (s.trise (s.f x 6)).1 R N k c (s.trise (s.f x 6)).2 ∧ (s.trise (s.f x 6)).1.tlist r = R ∧ Frm s (s.trise (s.f x 6)).1 N ∧ (s.trise (s.f x 6)).1.f (s.trise (s.f x 6)).2 6 = s.f x 6 ∧ ∀ x' j, j ≤ 5 → (s.trise (s.f x 6)).1.f x' j = s.f x' j := by
  have hb := h.b
  have h9 := hb.node9 hx
  have hlen := hb.le h.f.nd fun x hx => hx
  unfold Ar.trise
  rw [h9]
  obtain ⟨i1, i2, i3, i4, i5, i6, i7, i8⟩ := rise_law (any := true) h.f (s.n + 1) s x [] hb (fun y hy m hm => h.m.up y hy m hm) (fun y hy => hu y hy) (Hole.start h.f hx fun _ _ _ => rfl) hx (fun e => by cases e) List.nodup_nil (by simp) (by simp only [List.length_nil]; omega)
  refine ⟨⟨h.f, i2, h.m.turn i3, h.r.turn i3, i5, i7 rfl⟩, ?_, i1, i6, i3⟩
  exact Lk.row (Lk.congr (fun y _ => i3 y 3 (by decide)) hl) (fun y hy => i2.has y (h.f.root hy)) _ (i2.le h.f.ndR fun y hy => h.f.root hy)
theorem BHeap.cut (h : BHeap s r N) (hl3 : N.length ≤ 300) (hx : x ∈ N) :
    ∃ n M, BHeap (s.bcut r (s.f x 6)).1 (s.bcut r (s.f x 6)).2 M ∧ CutR s (s.bcut r (s.f x 6)).1 N (s.f x 6) n M ∧ (s.trise (s.f x 6)).2 ∈ (s.trise (s.f x 6)).1.tlist r ∧ 2 ^ ((s.trise (s.f x 6)).1.tlist r).length ≤ N.length + 1 ∧ 2 ^ ((s.trise (s.f x 6)).1.tkids (s.trise (s.f x 6)).2).length ≤ N.length ∧ ∀ y, (s.trise (s.f x 6)).1.f y 4 = s.f y 4 := by
  obtain ⟨k, R, h, hl, hu, hp⟩ := h
  have hx1 := h.b.ne hx
  have h9 := h.b.node9 hx
  obtain ⟨a, b, c, d, e⟩ := trise_law h hl hu hx
  have hlen := h.pw_len hp
  unfold Ar.bcut
  rw [h9, if_neg hx1, b, if_pos a.n]
  have hnN := a.f.root a.n
  have hN := List.perm_cons_erase hnN
  obtain ⟨j1, j2⟩ := a.bwo hN
  have hnM := (List.nodup_cons.1 (hN.nodup_iff.1 a.f.nd)).1
  have hrk := h.rank hnN
  have hkl := h.r.kl _ hnN
  have hrl := h.rank_le a.n
  refine ⟨_, _, j1, ⟨_, hN, c, a.b, d, j2.frm.up hN a.f.nd, ?_, ?_, ?_⟩, a.n, hlen, ?_, fun y => e y 4 (by decide)⟩
  · rw [j2.out _ hnM, Ar.endNode_f a.b hnN, if_neg (fun e => by omega), d]
  · rw [j2.out _ hnM, Ar.endNode_f a.b hnN, if_neg (fun e => by omega), e _ 4 (by decide)]; omega
  · rw [j2.out _ hnM, Ar.endNode_f a.b hnN, if_neg (fun e => by omega), e _ 4 (by decide)]; omega
  · rw [a.kids hnN]
    exact Nat.le_trans (Nat.pow_le_pow_right (by decide) (by omega)) hrl
theorem SHeap.cut (h : SHeap s r N) (hl3 : N.length ≤ 300) (hx : x ∈ N) :
    ∃ n M, SHeap (s.scut r (s.f x 6)).1 (s.scut r (s.f x 6)).2 M ∧ CutR s (s.scut r (s.f x 6)).1 N (s.f x 6) n M ∧ (s.trise (s.f x 6)).2 ∈ (s.trise (s.f x 6)).1.tlist r ∧ 2 ^ (((s.trise (s.f x 6)).1.tlist r).length - 1) ≤ N.length + 1 ∧ 2 ^ ((s.trise (s.f x 6)).1.krest ((s.trise (s.f x 6)).1.tkids (s.trise (s.f x 6)).2)).length ≤ N.length ∧ (∃ d, ((s.trise (s.f x 6)).1.tkids (s.trise (s.f x 6)).2).length ≤ 2 * d ∧ 2 ^ d ≤ N.length) ∧ ∀ y, (s.trise (s.f x 6)).1.f y 4 = s.f y 4 := by
  obtain ⟨k, R, h, hl, hu, hp⟩ := h
  have hx1 := h.b.ne hx
  have h9 := h.b.node9 hx
  obtain ⟨a, b, c, d, e⟩ := trise_law h hl hu hx
  have hlen := h.sk_len hp
  unfold Ar.scut
  rw [h9, if_neg hx1, b, if_pos a.n]
  have hnN := a.f.root a.n
  have hN := List.perm_cons_erase hnN
  obtain ⟨j1, j2, j3, j4⟩ := a.swo hN
  have hnM := (List.nodup_cons.1 (hN.nodup_iff.1 a.f.nd)).1
  have hrk := h.rank hnN
  have hrl := h.rank_le a.n
  rw [e _ 4 (by decide)] at j3 j4
  refine ⟨_, _, j1, ⟨_, hN, c, a.b, d, j2.up hN a.f.nd, ?_, ?_, ?_⟩, a.n, hlen, Nat.le_trans (Nat.pow_le_pow_right (by decide) j3) hrl, ⟨_, j4, hrl⟩, fun y => e y 4 (by decide)⟩
  · rw [j2.out _ hnM 6 (by decide), Ar.endNode_f a.b hnN, if_neg (fun e => by omega), d]
  · rw [j2.out _ hnM 4 (by decide), Ar.endNode_f a.b hnN, if_neg (fun e => by omega), e _ 4 (by decide)]; omega
  · rw [j2.out _ hnM 4 (by decide), Ar.endNode_f a.b hnN, if_neg (fun e => by omega), e _ 4 (by decide)]; omega
end
end Go.Proofs.YtognmhgdegpdiaaGreat
end
