import Derived.Test.YtognmhgdegpdiaaSlotsPlA
import Derived.Test.YtognmhgdegpdiaaSlotsChSt
/- Handles against plain pools: both as things in memory. -/
namespace Go.Proofs.Ytognmhgdegpdiaa
open Go.RowKit
set_option linter.unusedVariables false
set_option linter.unusedSimpArgs false
set_option maxRecDepth 100000

def intRows (L : List Int) : List (List Value) := L.map fun b => [Value.int .i64 b]
theorem intRows_len (L : List Int) : (intRows L).length = L.length := by simp [intRows]
def PM.I (X : PM) : List Ent := refEs X.mi X.ig X.ii X.iv X.ib X.ri
def PM.H (X : PM) : List Ent := refEs X.mh X.hg X.hi X.hv X.hb X.rh
def PM.S (X : PM) : List Ent := slotEs X.t X.ph X.pi X.b X.n X.lh X.fh X.li X.fi X.sh X.si X.f
def PM.D (X : PM) : List Ent := [blkE X.m 75 #[.pointer (some ⟨X.mh, 0, none⟩), .pointer (some ⟨X.mi, 0, none⟩), X.vk, X.vr, X.vn, X.vf, X.vc, X.vi], tabE 3 1 X.vk (intRows X.kd), tabE 3 1 X.vr (intRows X.rt), tabE 3 1 X.vn (intRows X.nn), tabE 27 2 X.vf (rowsR X.rf), tabE 3 1 X.vc (intRows X.cl), tabE 3 1 X.vi (intRows X.inn)]
/-- All of it: 21 things. -/
def PM.mem (X : PM) : List Ent := X.I ++ (X.H ++ (X.S ++ X.D))
section
variable {B : Nat} {w0 w : World} {X : PM} {es : List Ent}
theorem PM.toI : Led B w0 w (X.mem ++ es) ↔ Led B w0 w (X.I ++ (X.H ++ (X.S ++ (X.D ++ es)))) := by simp only [PM.mem, List.append_assoc]
theorem PM.toH : Led B w0 w (X.mem ++ es) ↔ Led B w0 w (X.H ++ (X.I ++ (X.S ++ (X.D ++ es)))) :=
  PM.toI.trans ⟨fun h => h.swapA, fun h => h.swapA⟩
theorem PM.toS : Led B w0 w (X.mem ++ es) ↔ Led B w0 w (X.S ++ (X.I ++ (X.H ++ (X.D ++ es)))) :=
  PM.toI.trans ⟨fun h => h.perm ((List.Perm.append_left _ (List.perm_append_comm_assoc _ _ _)).trans (List.perm_append_comm_assoc _ _ _)), fun h => h.perm ((List.perm_append_comm_assoc _ _ _).trans (List.Perm.append_left _ (List.perm_append_comm_assoc _ _ _)))⟩
theorem pmBlk (h : Led B w0 w (X.mem ++ es)) : Blk w X.m 75 #[.pointer (some ⟨X.mh, 0, none⟩), .pointer (some ⟨X.mi, 0, none⟩), X.vk, X.vr, X.vn, X.vf, X.vc, X.vi] := h.at_ 14 rfl
theorem pm0 (h : Led B w0 w (X.mem ++ es)) : w.cell? ⟨X.m, 0, none⟩ = some (.pointer (some ⟨X.mh, 0, none⟩)) := by simpa using (pmBlk h).cell 0
theorem pm1 (h : Led B w0 w (X.mem ++ es)) : w.cell? ⟨X.m, 1, none⟩ = some (.pointer (some ⟨X.mi, 0, none⟩)) := by simpa using (pmBlk h).cell 1
theorem pm2 (h : Led B w0 w (X.mem ++ es)) : w.cell? ⟨X.m, 2, none⟩ = some X.vk := by simpa using (pmBlk h).cell 2
theorem pm3 (h : Led B w0 w (X.mem ++ es)) : w.cell? ⟨X.m, 3, none⟩ = some X.vr := by simpa using (pmBlk h).cell 3
theorem pm4 (h : Led B w0 w (X.mem ++ es)) : w.cell? ⟨X.m, 4, none⟩ = some X.vn := by simpa using (pmBlk h).cell 4
theorem pm5 (h : Led B w0 w (X.mem ++ es)) : w.cell? ⟨X.m, 5, none⟩ = some X.vf := by simpa using (pmBlk h).cell 5
theorem pm6 (h : Led B w0 w (X.mem ++ es)) : w.cell? ⟨X.m, 6, none⟩ = some X.vc := by simpa using (pmBlk h).cell 6
theorem pm7 (h : Led B w0 w (X.mem ++ es)) : w.cell? ⟨X.m, 7, none⟩ = some X.vi := by simpa using (pmBlk h).cell 7
theorem pmK (h : Led B w0 w (X.mem ++ es)) : TabIs w 0 3 1 X.vk (intRows X.kd) := h.at_ 15 rfl
theorem pmR (h : Led B w0 w (X.mem ++ es)) : TabIs w 0 3 1 X.vr (intRows X.rt) := h.at_ 16 rfl
theorem pmN (h : Led B w0 w (X.mem ++ es)) : TabIs w 0 3 1 X.vn (intRows X.nn) := h.at_ 17 rfl
theorem pmF (h : Led B w0 w (X.mem ++ es)) : TabIs w 0 27 2 X.vf (rowsR X.rf) := h.at_ 18 rfl
theorem pmC (h : Led B w0 w (X.mem ++ es)) : TabIs w 0 3 1 X.vc (intRows X.cl) := h.at_ 19 rfl
theorem pmI (h : Led B w0 w (X.mem ++ es)) : TabIs w 0 3 1 X.vi (intRows X.inn) := h.at_ 20 rfl
theorem pmWF (h : Led B w0 w (X.mem ++ es)) : X.sh.WF ∧ X.si.WF := ⟨(slotHeaps (PM.toS.1 h)).wf, (slotItems (PM.toS.1 h)).wf⟩
theorem Sim.wf {α : Type} {V : α → Int → Prop} {s : PSt α} {r : PSt Int} (h : Sim V s r) (hw : s.WF) : r.WF := by
  refine ⟨by rw [← h.len, ← h.most]; exact hw.le, by rw [← h.most]; exact hw.most, by rw [← h.free]; exact hw.nodup, fun i => ?_⟩
  rw [← h.free, hw.free i]
  constructor
  · rintro ⟨x, hx, ht⟩
    obtain ⟨y, hy, _, e, _⟩ := h.get hx
    exact ⟨y, hy, e.symm.trans ht⟩
  · rintro ⟨y, hy, ht⟩
    have hi := (List.getElem?_eq_some_iff.1 hy).1
    rw [← h.len] at hi
    have hx := List.getElem?_eq_getElem hi
    exact ⟨_, hx, (h.at_ i _ y hx hy).2.1.trans ht⟩
theorem int_cell {g n c i : Nat} {L : List Int} {q : Int} (h : TabIs w 0 3 1 (.slice (some ⟨g, 0, none⟩) n c) (intRows L)) (hi : L[i]? = some q) : w.cell? ⟨g, i, none⟩ = some (.int .i64 q) :=
  tab1_cell h (by rw [intRows, List.getElem?_map, hi]; rfl)
theorem led_int {A C : List Ent} {g n c i : Nat} {L : List Int} {q : Int} (h : Led B w0 w (A ++ tabE 3 1 (.slice (some ⟨g, 0, none⟩) n c) (intRows L) :: C)) (hi : L[i]? = some q) (b : Int) : Led B w0 (w.setCell ⟨g, i, none⟩ (.int .i64 b)) (A ++ tabE 3 1 (.slice (some ⟨g, 0, none⟩) n c) (intRows (L.set i b)) :: C) := by
  have hT : TabIs w 0 3 1 (.slice (some ⟨g, 0, none⟩) n c) (intRows L) := h.mem
  have h1 := hT.set (i := i) (j := 0) (r := [.int .i64 q]) (.int .i64 b) (by rw [intRows, List.getElem?_map, hi]; rfl) (by decide)
  rw [Nat.mul_one, Nat.add_zero] at h1
  exact h.mid _ ((Chg.refl _ _).setCell (p := ⟨g, i, none⟩) (.inl (by simp [tabE, Value.ownBlock])) (.int .i64 b)) (by simpa [tabE, intRows, List.map_set] using h1) (Fresh.refl _ _)
theorem int_form {v : Value} {L : List Int} (h : TabIs w 0 3 1 v (intRows L)) : ∃ A c, v = .slice A L.length c ∧ L.length ≤ c ∧ (0 < L.length → ∃ g, A = some ⟨g, 0, none⟩ ∧ g < w.heap.size) := tab1_form h (intRows_len L)
end

/-- The Refs of the items that are there. -/
def PM.all (X : PM) : List (Int × Int) := allTo X.ri.l X.ri.l.length
def inIn (X : PM) (h : Int) (r : Int × Int) : Bool := decide (h < 0) || match X.ri.l[r.1.toNat]? with
  | some y => X.inn[y.v.toNat]? == some h
  | none => false
def thereQ (X : PM) (h : Int) (T : List (Int × Int)) : List (Int × Int) := T.filter (inIn X h)
theorem thereQ_succ {X : PM} {h : Int} {T : List (Int × Int)} {j : Nat} {r : Int × Int} (hr : T[j]? = some r) : thereQ X h (T.take (j + 1)) = thereQ X h (T.take j) ++ if inIn X h r = true then [r] else [] := by
  unfold thereQ
  rw [List.take_add_one, hr, List.filter_append]
  simp only [Option.toList_some, List.filter_cons, List.filter_nil]
theorem thereQ_le (X : PM) (h : Int) (T : List (Int × Int)) : (thereQ X h T).length ≤ T.length := List.length_filter_le _ _
theorem inIn_at {X : PM} {h : Int} {i q : Nat} {y : Pl Int} {c a : Int} (hy : X.ri.l[i]? = some y) (hq : y.v = (q : Int)) (ha : X.inn[q]? = some a) : inIn X h ((i : Int), c) = (decide (h < 0) || (a == h)) := by
  simp only [inIn, Int.toNat_natCast, hy, hq, ha]
  congr 1
/-- Of an item that is there, from the document's side. -/
theorem PInv.item_r {k : Nat} {X : PM} (h : PInv k X) {j : Nat} {y : Pl Int} (hy : X.ri.l[j]? = some y) (ht : y.taken = true) : ∃ (x : Pl V3) (q a : Nat), X.si.l[j]? = some x ∧ x.taken = true ∧ x.gen = y.gen ∧ 1 ≤ y.gen ∧ y.v = (q : Int) ∧ X.cl[q]? = some x.v.a ∧ X.inn[q]? = some (a : Int) ∧ q < X.cl.length ∧ a < X.kd.length := by
  have hj := (List.getElem?_eq_some_iff.1 hy).1
  rw [← h.simI.len] at hj
  have hx := List.getElem?_eq_getElem hj
  obtain ⟨e1, e2, _⟩ := h.simI.at_ j _ y hx hy
  have hxt := e2.trans ht
  obtain ⟨y', q, a, hy', hq, _, _, h1, h2, _, h3, h4⟩ := h.item hx hxt
  rw [hy] at hy'
  injection hy' with hy'
  subst hy'
  exact ⟨_, q, a, hx, hxt, e1, by have := (h.gens j _ hx).1; omega, hq, h1, h2, h3, h4⟩
theorem PM.inI {B : Nat} {w0 w : World} {X : PM} {es : List Ent} {e : Ent} (h : Led B w0 w (e :: (X.I ++ (X.H ++ (X.S ++ (X.D ++ es)))))) : Led B w0 w (X.mem ++ e :: es) := by
  refine h.perm ?_
  rw [show X.I ++ (X.H ++ (X.S ++ (X.D ++ es))) = X.mem ++ es by simp only [PM.mem, List.append_assoc]]
  exact List.perm_middle.symm
/-- The model alone: 17 things. -/
def PM.mod (X : PM) : List Ent := X.I ++ (X.H ++ X.D)
section
variable {B : Nat} {w0 w : World} {X : PM} {es : List Ent}
theorem PM.modS : Led B w0 w (X.mem ++ es) ↔ Led B w0 w (X.mod ++ (X.S ++ es)) := by
  refine PM.toI.trans ?_
  simp only [PM.mod, List.append_assoc]
  exact ⟨fun h => h.perm (List.Perm.append_left _ (List.Perm.append_left _ (List.perm_append_comm_assoc _ _ _))), fun h => h.perm (List.Perm.append_left _ (List.Perm.append_left _ (List.perm_append_comm_assoc _ _ _)))⟩
theorem PM.mdI' : Led B w0 w (X.mod ++ es) ↔ Led B w0 w (X.I ++ (X.H ++ (X.D ++ es))) := by simp only [PM.mod, List.append_assoc]
theorem PM.modI {e : Ent} (h : Led B w0 w (e :: (X.I ++ (X.H ++ (X.D ++ es))))) : Led B w0 w (X.mod ++ e :: es) := by
  refine h.perm ?_
  rw [show X.I ++ (X.H ++ (X.D ++ es)) = X.mod ++ es by simp only [PM.mod, List.append_assoc]]
  exact List.perm_middle.symm
theorem mdBlk (h : Led B w0 w (X.mod ++ es)) : Blk w X.m 75 #[.pointer (some ⟨X.mh, 0, none⟩), .pointer (some ⟨X.mi, 0, none⟩), X.vk, X.vr, X.vn, X.vf, X.vc, X.vi] := h.at_ 10 rfl
theorem md1 (h : Led B w0 w (X.mod ++ es)) : w.cell? ⟨X.m, 1, none⟩ = some (.pointer (some ⟨X.mi, 0, none⟩)) := by simpa using (mdBlk h).cell 1
theorem md6 (h : Led B w0 w (X.mod ++ es)) : w.cell? ⟨X.m, 6, none⟩ = some X.vc := by simpa using (mdBlk h).cell 6
theorem md7 (h : Led B w0 w (X.mod ++ es)) : w.cell? ⟨X.m, 7, none⟩ = some X.vi := by simpa using (mdBlk h).cell 7
theorem mdC (h : Led B w0 w (X.mod ++ es)) : TabIs w 0 3 1 X.vc (intRows X.cl) := h.at_ 15 rfl
theorem mdI (h : Led B w0 w (X.mod ++ es)) : TabIs w 0 3 1 X.vi (intRows X.inn) := h.at_ 16 rfl
end
end Go.Proofs.Ytognmhgdegpdiaa
