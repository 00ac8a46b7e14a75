import Derived.Test.YtognmhgdegpdiaaSlotsPlFG
import Derived.Test.YtognmhgdegpdiaaRefPool5
/- Handles against plain pools: appends to several lists in one drawn region: what is shared. -/
namespace Go.Proofs.Ytognmhgdegpdiaa
open Go.RowKit
set_option linter.unusedVariables false
set_option linter.unusedSimpArgs false
set_option maxRecDepth 100000

def tabO2 (t : TypeId) (sz : Nat) (v : Value) (L : List (List Value)) (row : List Value) (o : Option Value) : Ent := match o with
  | none => tabE t sz v L
  | some u => tabE t sz u (L ++ [row])
theorem ins_pure {B : Nat} {w0 w : World} {a : Ent} {xs : List Ent} (p : Prop) (hp : p) (h : Led B w0 w (a :: xs)) : Led B w0 w (a :: pureE p :: xs) :=
  Led.insert (es := [_]) (fs := _) h (pureE p) (Below.refl _ _) hp (by simp [pureE])
theorem PM.toD {B : Nat} {w0 w : World} {X : PM} {es : List Ent} : Led B w0 w (X.mem ++ es) ↔ Led B w0 w (X.D ++ (X.I ++ (X.H ++ (X.S ++ es)))) := by
  refine PM.toI.trans ⟨fun h => h.perm ?_, fun h => h.perm ?_⟩
  · exact ((List.Perm.append_left _ ((List.Perm.append_left _ (List.perm_append_comm_assoc _ _ _)).trans (List.perm_append_comm_assoc _ _ _))).trans (List.perm_append_comm_assoc _ _ _))
  · exact ((List.Perm.append_left _ ((List.Perm.append_left _ (List.perm_append_comm_assoc _ _ _)).trans (List.perm_append_comm_assoc _ _ _))).trans (List.perm_append_comm_assoc _ _ _)).symm
theorem perm50 {α : Type} (m a b c d e f : α) (R : List α) : (m :: a :: b :: c :: d :: e :: f :: R).Perm (m :: e :: f :: (a :: b :: c :: d :: R)) :=
  List.Perm.cons _ (show ([a, b, c, d] ++ ([e, f] ++ R)).Perm ([e, f] ++ ([a, b, c, d] ++ R)) from List.perm_append_comm_assoc _ _ _)
theorem led_end {B : Nat} {w0 w : World} {M E : List Ent} {T : TypeId} {cs : Array Value} (h : Led B w0 w (M ++ E)) : Led B w0 (w.alloc (.cells cs T)) (M ++ (E ++ [blkE w.heap.size T cs])) := by
  have := Led.insert (es := M ++ E) (fs := []) (by simpa using h) (blkE w.heap.size T cs) (bel_alloc (bel_refl w) (.cells cs T)) (Blk.new _ _ _) (by simp [blkE])
  simpa [List.append_assoc] using this
theorem led_front {B : Nat} {w0 w : World} {M E F : List Ent} (h : Led B w0 w (M ++ (E ++ F))) : Led B w0 w (M ++ E) := h.sub (List.Sublist.append (List.Sublist.refl _) (List.sublist_append_left _ _))
theorem led_end2 {B : Nat} {w0 w : World} {M E F : List Ent} {g : Nat} {T : TypeId} {x0 x1 y0 y1 : Value} (h : Led B w0 w (M ++ (E ++ (F ++ [blkE g T #[x0, x1]])))) : Led B w0 ((w.setCell ⟨g, 0, none⟩ y0).setCell ⟨g, 1, none⟩ y1) (M ++ (E ++ (F ++ [blkE g T #[y0, y1]]))) := by
  have := led_store2 (A := M ++ (E ++ F)) (C := []) (y0 := y0) (y1 := y1) (by simpa [List.append_assoc] using h)
  simpa [List.append_assoc] using this
def effG (md : Region.Mode) (ops : Array Oper) (l0 : Array Bool) (ix : List Nat) (deps : List (List Nat)) (s : List Bool) : Bool := !closedB deps s || s.all (· == true) ||
    (let r := Region.ready md ops (foldB l0 (ix.zip s))
     !r.isEmpty && r.all fun i => (List.range ix.length).any fun j => ix.getD j 0 == i && s.getD j true == false && (deps.getD j []).all fun d => s.getD d false)
theorem bools_len : ∀ (n : Nat) (s : List Bool), s ∈ bools n → s.length = n
  | 0, s, h => by simp [bools] at h; subst h; rfl
  | n + 1, s, h => by
    simp [bools] at h
    rcases h with ⟨t, ht, h⟩
    have := bools_len n t ht
    rcases h with rfl | rfl <;> simp [this]
theorem effOk_chunks {md : Region.Mode} {ops : Array Oper} {l0 : Array Bool} {ix : List Nat} {deps : List (List Nat)} (k m : Nat) (hn : ix.length = k + m) (h : ∀ p, p.length = k → ((bools m).all fun t => effG md ops l0 ix deps (p ++ t)) = true) : effOk md ops l0 ix deps = true := by
  unfold effOk
  rw [List.all_eq_true]
  intro s hs
  have hl := bools_len _ s hs
  have := h (s.take k) (by rw [List.length_take]; omega)
  rw [List.all_eq_true] at this
  have h2 := this (s.drop k) (by
    have hm := mem_bools (s.drop k)
    rwa [show (s.drop k).length = m by rw [List.length_drop]; omega] at hm)
  rw [List.take_append_drop] at h2
  exact h2
theorem four_bools {C : List Bool → Prop} (h : ∀ a b c d : Bool, C [a, b, c, d]) (p : List Bool) (hp : p.length = 4) : C p := by
  rcases p with _ | ⟨a, _ | ⟨b, _ | ⟨c, _ | ⟨d, _ | ⟨e, p⟩⟩⟩⟩⟩
  all_goals simp at hp
  exact h a b c d
theorem finE12 {a1 a2 a3 a4 a5 a6 a7 a8 a9 a10 a11 a12 : Eff} {zs : List (Eff × Option Value)} (h : zs.map (·.1) = [a1, a2, a3, a4, a5, a6, a7, a8, a9, a10, a11, a12]) (h2 : ∀ z, z ∈ zs → ∃ v, z.2 = some v) : ∃ v1 v2 v3 v4 v5 v6 v7 v8 v9 v10 v11 v12, zs = [(a1, some v1), (a2, some v2), (a3, some v3), (a4, some v4), (a5, some v5), (a6, some v6), (a7, some v7), (a8, some v8), (a9, some v9), (a10, some v10), (a11, some v11), (a12, some v12)] := by
  rcases zs with _ | ⟨⟨x1, s1⟩, _ | ⟨⟨x2, s2⟩, _ | ⟨⟨x3, s3⟩, _ | ⟨⟨x4, s4⟩, _ | ⟨⟨x5, s5⟩, _ | ⟨⟨x6, s6⟩, _ | ⟨⟨x7, s7⟩, _ | ⟨⟨x8, s8⟩, _ | ⟨⟨x9, s9⟩, _ | ⟨⟨x10, s10⟩, _ | ⟨⟨x11, s11⟩, _ | ⟨⟨x12, s12⟩, _ | ⟨q, zs⟩⟩⟩⟩⟩⟩⟩⟩⟩⟩⟩⟩⟩
  all_goals simp at h
  obtain ⟨rfl, rfl, rfl, rfl, rfl, rfl, rfl, rfl, rfl, rfl, rfl, rfl⟩ := h
  obtain ⟨v1, e1⟩ := h2 (x1, s1) (by simp)
  obtain ⟨v2, e2⟩ := h2 (x2, s2) (by simp)
  obtain ⟨v3, e3⟩ := h2 (x3, s3) (by simp)
  obtain ⟨v4, e4⟩ := h2 (x4, s4) (by simp)
  obtain ⟨v5, e5⟩ := h2 (x5, s5) (by simp)
  obtain ⟨v6, e6⟩ := h2 (x6, s6) (by simp)
  obtain ⟨v7, e7⟩ := h2 (x7, s7) (by simp)
  obtain ⟨v8, e8⟩ := h2 (x8, s8) (by simp)
  obtain ⟨v9, e9⟩ := h2 (x9, s9) (by simp)
  obtain ⟨v10, e10⟩ := h2 (x10, s10) (by simp)
  obtain ⟨v11, e11⟩ := h2 (x11, s11) (by simp)
  obtain ⟨v12, e12⟩ := h2 (x12, s12) (by simp)
  simp only at e1 e2 e3 e4 e5 e6 e7 e8 e9 e10 e11 e12
  subst e1 e2 e3 e4 e5 e6 e7 e8 e9 e10 e11 e12
  exact ⟨v1, v2, v3, v4, v5, v6, v7, v8, v9, v10, v11, v12, rfl⟩
theorem finE6 {a1 a2 a3 a4 a5 a6 : Eff} {zs : List (Eff × Option Value)} (h : zs.map (·.1) = [a1, a2, a3, a4, a5, a6]) (h2 : ∀ z, z ∈ zs → ∃ v, z.2 = some v) : ∃ v1 v2 v3 v4 v5 v6, zs = [(a1, some v1), (a2, some v2), (a3, some v3), (a4, some v4), (a5, some v5), (a6, some v6)] := by
  rcases zs with _ | ⟨⟨x1, s1⟩, _ | ⟨⟨x2, s2⟩, _ | ⟨⟨x3, s3⟩, _ | ⟨⟨x4, s4⟩, _ | ⟨⟨x5, s5⟩, _ | ⟨⟨x6, s6⟩, _ | ⟨q, zs⟩⟩⟩⟩⟩⟩⟩
  all_goals simp at h
  obtain ⟨rfl, rfl, rfl, rfl, rfl, rfl⟩ := h
  obtain ⟨v1, e1⟩ := h2 (x1, s1) (by simp)
  obtain ⟨v2, e2⟩ := h2 (x2, s2) (by simp)
  obtain ⟨v3, e3⟩ := h2 (x3, s3) (by simp)
  obtain ⟨v4, e4⟩ := h2 (x4, s4) (by simp)
  obtain ⟨v5, e5⟩ := h2 (x5, s5) (by simp)
  obtain ⟨v6, e6⟩ := h2 (x6, s6) (by simp)
  simp only at e1 e2 e3 e4 e5 e6
  subst e1 e2 e3 e4 e5 e6
  exact ⟨v1, v2, v3, v4, v5, v6, rfl⟩
end Go.Proofs.Ytognmhgdegpdiaa
