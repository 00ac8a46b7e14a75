import Derived.Test.YtognmhgdegpdiaaGreatTopFx
/- The heap of a kind: an item falls, an item goes. -/
namespace Go.Proofs.YtognmhgdegpdiaaGreat
set_option linter.unusedVariables false
set_option linter.unusedSimpArgs false
section
variable {s s' : Ar} {N M : List Int} {k r x key : Int}
theorem Ar.RB.lower {s : Ar} {K : Int} (h : s.RB K) (i key : Int) : (s.put i 7 key).RB K := h.put _ _ _ (by decide)
theorem KHeap.fall (ho : s.Ok) (hrb : s.RB 70000) (h : KHeap k s r N) (hx : x ∈ N) (hk : key ≤ s.f (s.f x 6) 7) :
    KHeap k (Ar.kfall k (s.put (s.f x 6) 7 key) r (s.f x 6)).1 (Ar.kfall k (s.put (s.f x 6) 7 key) r (s.f x 6)).2 N ∧ Frm (s.put (s.f x 6) 7 key) (Ar.kfall k (s.put (s.f x 6) 7 key) r (s.f x 6)).1 N ∧ FallPre (s.put (s.f x 6) 7 key) := by
  have hp : FallPre (s.put (s.f x 6) 7 key) := ⟨ho.put _ _ _, by rw [Ar.put_n]; exact ho.nm, (hrb.put _ _ _ (by decide)).mono (by decide)⟩
  rcases h.cases with ⟨rfl, g⟩ | ⟨rfl, g⟩ | ⟨rfl, g⟩ | ⟨rfl, g⟩ | ⟨hk5, g, h4⟩
  · obtain ⟨a, b, _⟩ := g.fall hx hk
    exact ⟨a, b.frm, hp⟩
  · obtain ⟨a, b⟩ := g.fall hx hk
    exact ⟨a, b, hp⟩
  · obtain ⟨a, b⟩ := g.fall hx hk
    exact ⟨a, b, hp⟩
  · obtain ⟨a, b⟩ := g.fall hx hk
    exact ⟨a, b.frm, hp⟩
  · obtain ⟨a, b, c⟩ := g.fall hx hk
    have e : Ar.kfall k (s.put (s.f x 6) 7 key) r (s.f x 6) = (s.put (s.f x 6) 7 key).pfall r (s.f x 6) := by unfold Ar.kfall; rw [if_neg hk5.1, if_neg hk5.2.1, if_neg hk5.2.2.1, if_neg hk5.2.2.2]
    rw [e]
    exact ⟨by rw [kheap5 hk5]; exact ⟨a, fun n hn => by rw [c]; exact h4 n hn⟩, b.frm, hp⟩
theorem KHeap.cut (ho : s.Ok) (hrb : s.RB 70000) (hn : s.n ≤ 1000) (hl : N.length ≤ 300) (h : KHeap k s r N) (hx : x ∈ N) :
    ∃ n M, KHeap k (Ar.kcut k s r (s.f x 6)).1 (Ar.kcut k s r (s.f x 6)).2 M ∧ CutR s (Ar.kcut k s r (s.f x 6)).1 N (s.f x 6) n M ∧ CutPre k s r (s.f x 6) := by
  obtain ⟨hb, hd⟩ := h.base
  have h9 := hb.node9 hx
  have hlv : s.has (s.cell (s.f x 6) 9) = true := by rw [h9]; exact hb.has x hx
  have hn1 := ho.n1
  have hnm := ho.nm
  have hrb9 : s.RB 9000000 := hrb.mono (by decide)
  rcases h.cases with ⟨rfl, g⟩ | ⟨rfl, g⟩ | ⟨rfl, g⟩ | ⟨rfl, g⟩ | ⟨hk5, g, h4⟩
  · obtain ⟨M, a, b, c⟩ := g.cut hrb hl hx
    exact ⟨x, M, a, b, ⟨ho, hn1, hnm, hrb9, hlv, fun _ e _ => by rw [h9] at e ⊢; have := c e; exact ⟨this.1.mono (by decide), by rw [this.2]; exact hnm⟩, by omega, by omega, by omega⟩⟩
  · obtain ⟨n, M, a, b, c, d, e, _⟩ := g.cut hl hx
    have h1 := pow_lt (e := 9) d (by omega)
    have h2 := pow_lt (e := 9) e (by omega)
    have h3 := idel_le (s.trise (s.f x 6)).2 ((s.trise (s.f x 6)).1.tlist r)
    exact ⟨n, M, a, b, ⟨ho, hn1, hnm, hrb9, hlv, by omega, fun _ => ⟨c, by omega, by rw [List.length_append]; omega⟩, by omega, by omega⟩⟩
  · obtain ⟨n, M, a, b, c, d, e, _⟩ := g.cut hl hx
    have h1 := pow_lt (e := 9) d (by omega)
    have h2 := pow_lt (e := 9) e (by omega)
    have h3 := idel_le (s.trise (s.f x 6)).2 ((s.trise (s.f x 6)).1.tlist r)
    exact ⟨n, M, a, b, ⟨ho, hn1, hnm, hrb9, hlv, by omega, by omega, fun _ => ⟨c, by omega, by rw [List.length_append]; omega⟩, by omega⟩⟩
  · obtain ⟨M, a, b, c, d, _⟩ := g.cut hl hx
    exact ⟨x, M, a, b, ⟨ho, hn1, hnm, hrb9, hlv, by omega, by omega, by omega, fun _ => by rw [h9]; exact ⟨c.ok ho, (c.rb hrb fun n hn => by have := d n hn; omega).mono (by decide), c.n_⟩⟩⟩
  · obtain ⟨M, a, b, c⟩ := g.cut hl hx h4
    have e : Ar.kcut k s r (s.f x 6) = s.pcut r (s.f x 6) := by unfold Ar.kcut; rw [if_neg hk5.1, if_neg hk5.2.1, if_neg hk5.2.2.1, if_neg hk5.2.2.2]
    rw [e]
    have hM : ∀ y ∈ M, y ∈ N := fun y hy => by obtain ⟨_, b1, _⟩ := b; exact b1.mem_iff.2 (by simp [hy])
    exact ⟨x, M, by rw [kheap5 hk5]; exact ⟨a, fun n hn => by rw [c]; exact h4 n (hM n hn)⟩, b, ⟨ho, hn1, hnm, hrb9, hlv, by omega, by omega, by omega, by omega⟩⟩
end
section
variable {s : Ar} {L : List HP} {k r i x key : Int} {N : List Int}
theorem Heaps.fall (H : Heaps s (⟨k, r, N⟩ :: L) []) (hx : x ∈ N) (hkey : key ≤ s.f (s.f x 6) 7) :
    Heaps (Ar.kfall k (s.put (s.f x 6) 7 key) r (s.f x 6)).1 (⟨k, (Ar.kfall k (s.put (s.f x 6) 7 key) r (s.f x 6)).2, N⟩ :: L) [] ∧ FallPre (s.put (s.f x 6) 7 key) ∧ (∀ c, (Ar.kfall k (s.put (s.f x 6) 7 key) r (s.f x 6)).1.f c 7 = (if c = s.f x 6 then key else s.f c 7) ∧ (Ar.kfall k (s.put (s.f x 6) 7 key) r (s.f x 6)).1.f c 8 = s.f c 8) ∧
      (N.map fun n => (Ar.kfall k (s.put (s.f x 6) 7 key) r (s.f x 6)).1.f n 6).Perm (N.map fun n => s.f n 6) ∧ (∀ y ∈ nodesL L, (Ar.kfall k (s.put (s.f x 6) 7 key) r (s.f x 6)).1.f y 6 = s.f y 6) ∧ (Ar.kfall k (s.put (s.f x 6) 7 key) r (s.f x 6)).1.n = s.n ∧ SB s (Ar.kfall k (s.put (s.f x 6) 7 key) r (s.f x 6)).1 := by
  obtain ⟨hk, hK⟩ := H.hp ⟨k, r, N⟩ (by simp)
  obtain ⟨a1, a2, a3, a4, a5, a6⟩ := H.apart
  rw [nodesL_cons] at a1 a2 a4 a5 a6
  simp only at hK
  have hit : s.has (s.f x 6) = true := H.has (mem_tot_item (by rw [nodesL_cons]; simp [hx]))
  obtain ⟨b1, b2, b3⟩ := hK.fall H.ok H.rb hx hkey
  have ef := lower_f s hit key
  have eo : ∀ c j, j ≠ 7 → (s.put (s.f x 6) 7 key).f c j = s.f c j := fun c j hj => by rw [ef, if_neg (fun e => by exact hj e.2)]
  have hdj : ∀ y ∈ nodesL L, y ∉ N := fun y hy e => (List.nodup_append.1 a1).2.2 y e y hy rfl
  have hdi : ∀ y ∈ nodesL L, ∀ n ∈ N, s.f n 6 ≠ s.f y 6 := fun y hy n hn e => by
    rw [List.map_append, List.nodup_append] at a2
    exact a2.2.2 _ (List.mem_map.2 ⟨n, hn, rfl⟩) _ (List.mem_map.2 ⟨y, hy, rfl⟩) e
  have hs : ∀ h ∈ L, Same s (Ar.kfall k (s.put (s.f x 6) 7 key) r (s.f x 6)).1 h.N := fun h hh => by
    have g1 : ∀ c ∈ h.N, c ∈ nodesL L := fun c hc => mem_nodesL hh hc
    refine Same.trans (s1 := s.put (s.f x 6) 7 key) ⟨fun c _ => Ar.put_has _ _ _ _ _, fun c _ => Ar.put_has _ _ _ _ _, fun c _ j hj => eo c j (by omega), fun c hc => ⟨?_, eo _ 8 (by decide), eo _ 9 (by decide)⟩⟩ (b2.same_of (fun y hy => hdj y (g1 y hy)) fun y hy n hn => by rw [eo n 6 (by decide), eo y 6 (by decide)]; exact hdi y (g1 y hy) n hn)
    rw [ef, if_neg (fun e => by exact hdi c (g1 c hc) x hx e.1.symm)]
  have H' : Heaps s L (N ++ N.map fun n => s.f n 6) := by
    have e : (totL s (⟨k, r, N⟩ :: L) []).Perm (totL s L (N ++ N.map fun n => s.f n 6)) := by
      unfold totL
      simp only [nodesL_cons, List.map_append]
      refine List.perm_iff_count.2 fun a => ?_
      simp only [List.count_append, List.count_nil]
      omega
    exact ⟨H.ok, H.rb, e.nodup_iff.1 H.nd, fun c => (H.tk c).trans e.mem_iff, fun h hh => H.hp h (by simp [hh])⟩
  have hit6 : (N.map fun n => (Ar.kfall k (s.put (s.f x 6) 7 key) r (s.f x 6)).1.f n 6).Perm (N.map fun n => s.f n 6) := by
    refine b2.it.trans ?_
    rw [List.map_congr_left fun n _ => eo n 6 (by decide)]
  have hok1 : (s.put (s.f x 6) 7 key).Ok := H.ok.put _ _ _
  refine ⟨H.step (b2.ok hok1) (b2.rb (H.rb.put _ _ _ (by decide)) fun n hn => b1.rank_in (b2.ok hok1) hn) hs (h := ⟨k, _, N⟩) (X := totL s (⟨k, r, N⟩ :: L) []) ?_ H.nd (fun c => by rw [b2.tk, Ar.put_tk]; exact H.tk c) ⟨hk, b1⟩, b3, fun c => ⟨(b2.k78 c).1.trans ?_, (b2.k78 c).2.trans (eo c 8 (by decide))⟩, hit6, fun y hy => ?_, b2.n_.trans (Ar.put_n _ _ _ _), (put_sb _ _ _ _).trans b2.sb⟩
  · unfold totL
    simp only [nodesL_cons, List.map_append]
    refine List.perm_iff_count.2 fun a => ?_
    have h1 := List.perm_iff_count.1 hit6 a
    simp only [List.count_append, List.count_nil] at h1 ⊢
    omega
  · rw [ef]
    by_cases e : c = s.f x 6
    · rw [if_pos ⟨e, rfl⟩, if_pos e]
    · rw [if_neg (fun h => by exact e h.1), if_neg e]
  · obtain ⟨h, hh, hy⟩ := List.mem_flatMap.1 hy
    exact (hs h hh).f y hy 6 (by decide)
theorem Heaps.cut (H : Heaps s (⟨k, r, N⟩ :: L) []) (hn : s.n ≤ 1000) (hl : N.length ≤ 300) (hx : x ∈ N) :
    ∃ M, CutPre k s r (s.f x 6) ∧ Heaps (Ar.kcut k s r (s.f x 6)).1 (⟨k, (Ar.kcut k s r (s.f x 6)).2, M⟩ :: L) [s.f x 6] ∧ (∀ c, (Ar.kcut k s r (s.f x 6)).1.f c 7 = s.f c 7 ∧ (Ar.kcut k s r (s.f x 6)).1.f c 8 = s.f c 8) ∧
      (s.f x 6 :: M.map fun n => (Ar.kcut k s r (s.f x 6)).1.f n 6).Perm (N.map fun n => s.f n 6) ∧ (∀ y ∈ nodesL L, (Ar.kcut k s r (s.f x 6)).1.f y 6 = s.f y 6) ∧ (Ar.kcut k s r (s.f x 6)).1.n = s.n ∧ SB s (Ar.kcut k s r (s.f x 6)).1 := by
  obtain ⟨hk, hK⟩ := H.hp ⟨k, r, N⟩ (by simp)
  simp only at hK
  obtain ⟨hb, hd⟩ := hK.base
  obtain ⟨n, M, b3, ⟨s1, b1, c1, c2, c3, b4, c4, c5, c6⟩, b6⟩ := hK.cut H.ok H.rb hn hl hx
  refine ⟨M, b6, ?_⟩
  obtain ⟨a1, a2, a3, a4, a5, a6⟩ := H.apart
  rw [nodesL_cons] at a1 a2 a4 a5 a6
  have hnN : n ∈ N := b1.mem_iff.2 (by simp)
  have hnM := (List.nodup_cons.1 (b1.nodup_iff.1 hd)).1
  have ef := Ar.endNode_f c2 hnN
  have eo : ∀ c j, j ≠ 9 → (s1.endNode n).f c j = s1.f c j := fun c j hj => by rw [ef, if_neg (fun e => by exact hj e.2)]
  generalize Ar.kcut k s r (s.f x 6) = z at *
  obtain ⟨s', r'⟩ := z
  simp only at *
  have hdj : ∀ y ∈ nodesL L, y ∉ N := fun y hy e => (List.nodup_append.1 a1).2.2 y e y hy rfl
  have hdi : ∀ y ∈ nodesL L, ∀ n ∈ N, s.f n 6 ≠ s.f y 6 := fun y hy n hn e => by
    rw [List.map_append, List.nodup_append] at a2
    exact a2.2.2 _ (List.mem_map.2 ⟨n, hn, rfl⟩) _ (List.mem_map.2 ⟨y, hy, rfl⟩) e
  -- the nodes' items are the same ones, in other places
  have hm6 : ∀ n ∈ N, ∃ m ∈ N, s1.f n 6 = s.f m 6 := fun n hn => by
    have := c1.it.mem_iff.1 (List.mem_map.2 ⟨n, hn, rfl⟩)
    obtain ⟨m, hm, e⟩ := List.mem_map.1 this
    exact ⟨m, hm, e.symm⟩
  have hs1 : ∀ h ∈ L, Same s s1 h.N := fun h hh => c1.same_of (fun y hy => hdj y (mem_nodesL hh hy)) fun y hy m hm => hdi y (mem_nodesL hh hy) m hm
  have e61 : ∀ h ∈ L, ∀ y ∈ h.N, s1.f y 6 = s.f y 6 := fun h hh y hy => (hs1 h hh).f y hy 6 (by decide)
  have hs : ∀ h ∈ L, Same s s' h.N := fun h hh => by
    have g1 : ∀ c ∈ h.N, c ∈ nodesL L := fun c hc => mem_nodesL hh hc
    have g2 : ∀ c ∈ h.N, c ≠ n := fun c hc e => hdj c (g1 c hc) (e ▸ hnN)
    have hd1 : ∀ c ∈ h.N, ∀ m ∈ N, s1.f m 6 ≠ s1.f c 6 := fun c hc m hm e => by
      obtain ⟨m', hm', e2⟩ := hm6 m hm
      rw [e2, e61 h hh c hc] at e
      exact hdi c (g1 c hc) m' hm' e
    refine (hs1 h hh).trans (Same.trans (s1 := s1.endNode n) ⟨fun c hc => Ar.endNode_has c2 hnN c (g2 c hc), fun c hc => Ar.endNode_has c2 hnN _ (by rw [e61 h hh c hc]; exact a4 n (by simp [hnN]) c (by simp [g1 c hc])), fun c hc j hj => eo c j (by omega), fun c hc => ⟨eo _ 7 (by decide), eo _ 8 (by decide), ?_⟩⟩ (b4.same_of (fun y hy => hdj y (g1 y hy)) fun y hy m hm => ?_))
    · rw [ef, if_neg (fun e => by exact hd1 c hc n hnN e.1.symm)]
    · rw [eo m 6 (by decide), eo y 6 (by decide)]; exact hd1 y hy m hm
  have hN6 : (N.map fun m => s'.f m 6).Perm (N.map fun m => s.f m 6) := by
    refine b4.it.trans ?_
    rw [List.map_congr_left fun y _ => eo y 6 (by decide)]
    exact c1.it
  have hM6 : (s.f x 6 :: M.map fun n => s'.f n 6).Perm (N.map fun n => s.f n 6) := by
    have h2 := (b1.map fun m => s'.f m 6).symm.trans hN6
    simp only [List.map_cons] at h2
    rw [c4] at h2
    exact h2
  have hok1 : (s1.endNode n).Ok := (c1.ok H.ok).endNode n
  have htot : (totL s (⟨k, r, N⟩ :: L) []).Perm (n :: (M ++ nodesL L ++ (M.map (fun n => s'.f n 6) ++ (nodesL L).map (fun n => s.f n 6) ++ [s.f x 6]))) := by
    unfold totL
    rw [nodesL_cons]
    refine List.perm_iff_count.2 fun a => ?_
    have h1 := List.perm_iff_count.1 hM6 a
    have h2 := List.perm_iff_count.1 b1 a
    simp only [List.map_cons, List.map_append, List.count_append, List.count_cons, List.count_nil] at h1 h2 ⊢
    omega
  have hnd := htot.nodup_iff.1 H.nd
  rw [List.nodup_cons] at hnd
  have hrb' : s'.RB 70000 := fun c => by
    by_cases hc : c ∈ N
    · rcases List.mem_cons.1 (b1.mem_iff.1 hc) with e | e
      · rw [e]; omega
      · exact b3.rank_in (b4.ok hok1) e
    · rw [b4.out c hc 4 (by decide), eo c 4 (by decide), c1.out c hc 4 (by decide)]; exact H.rb c
  refine ⟨H.step (b4.ok hok1) hrb' hs (h := ⟨k, r', M⟩) (List.Perm.refl _) hnd.2 (fun c => ?_) ⟨hk, b3⟩, fun c => ⟨(b4.k78 c).1.trans ((eo c 7 (by decide)).trans (c1.k78 c).1), (b4.k78 c).2.trans ((eo c 8 (by decide)).trans (c1.k78 c).2)⟩, hM6, fun y hy => ?_, b4.n_.trans ((Ar.endNode_n s1 n).trans c1.n_), c1.sb.trans ((endNode_sb s1 n).trans b4.sb)⟩
  · rw [b4.tk, Ar.endNode_tk c2 hnN]
    have h1 := (H.tk c).trans htot.mem_iff
    rw [← c1.tk] at h1
    unfold updI
    split
    · rename_i h
      rw [h]
      exact ⟨fun e => (by cases e), fun e => absurd e hnd.1⟩
    · rename_i h
      rw [h1, List.mem_cons]
      exact ⟨fun e => e.resolve_left h, .inr⟩
  · obtain ⟨h, hh, hy⟩ := List.mem_flatMap.1 hy
    exact (hs h hh).f y hy 6 (by decide)
end
end Go.Proofs.YtognmhgdegpdiaaGreat
