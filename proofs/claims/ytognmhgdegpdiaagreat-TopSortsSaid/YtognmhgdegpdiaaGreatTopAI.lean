import Derived.Test.YtognmhgdegpdiaaGreatLedAll
import Derived.Test.YtognmhgdegpdiaaGreatRows
import Derived.Test.YtognmhgdegpdiaaGreatPoolACV
import Derived.Handy
import Derived.Deep.MidRow
import Derived.Test.YtognmhgdegpdiaaGreatLedEffs
section
/- The arena as plain data, and where it lies. -/
namespace Go.Proofs.YtognmhgdegpdiaaGreat
open Go.RowKit
set_option linter.unusedVariables false
set_option linter.unusedSimpArgs false
theorem bel_refl (w : World) : Below w.heap.size w w := Below.refl _ _
theorem bel_drew {a w : World} (h : Below a.heap.size a w) : Below a.heap.size a w.drew := h.drew
def cap (n : Nat) : Int := if n ≤ 9223372036854775807 then (n : Int) else 9223372036854775807
structure Ar where
  n : Nat
  f : Int → Int → Int
  tk : Int → Bool
  never : Nat
  free : List Int
  steps : Nat
  begun : Nat
  most : Int
def updI {α : Type} (f : Int → α) (c : Int) (v : α) : Int → α := fun x => if x = c then v else f x
theorem updI_same {α : Type} (f : Int → α) (c : Int) (v : α) : updI f c v c = v := by simp [updI]
theorem updI_ne {α : Type} (f : Int → α) {c d : Int} (v : α) (h : d ≠ c) : updI f c v d = f d := by simp [updI, h]
def freshF : Int → Int := fun k => if k = 0 ∨ k = 1 ∨ k = 2 ∨ k = 3 ∨ k = 6 ∨ k = 9 then -1 else 0
namespace Ar
def row (s : Ar) (c : Int) : List Value := [.int .i64 (s.f c 0), .int .i64 (s.f c 1), .int .i64 (s.f c 2), .int .i64 (s.f c 3), .int .i64 (s.f c 4), .int .i64 (s.f c 5), .int .i64 (s.f c 6), .int .i64 (s.f c 7), .int .i64 (s.f c 8), .int .i64 (s.f c 9), .bool (s.tk c)]
def rows (s : Ar) : List (List Value) := (List.range s.n).map fun c : Nat => s.row c
def frees (s : Ar) : List (List Value) := s.free.map fun x => [Value.int .i64 x]
def tick (s : Ar) (k : Nat) : Ar := { s with steps := s.steps + k }
def has (s : Ar) (c : Int) : Bool := decide (0 ≤ c) && decide (c < s.n) && s.tk c
def get (s : Ar) (c k : Int) : Int := if s.has c then s.f c k else -1
def cell (s : Ar) (c k : Int) : Int := if s.get c k < 0 ∨ (s.n : Int) ≤ s.get c k then -1 else s.get c k
def put (s : Ar) (c k v : Int) : Ar := if s.has c then { s with f := updI s.f c (updI (s.f c) k v) } else s
def setRow (s : Ar) (c : Int) (g : Int → Int) (b : Bool) : Ar := { s with f := updI s.f c g, tk := updI s.tk c b }
def take (s : Ar) : Int × Bool × Ar := match s.free.getLast? with
  | some c => (c, true, { s with free := s.free.dropLast }.setRow c freshF true)
  | none => if s.n ≤ s.never then (-1, false, s) else (s.never, true, { s with never := s.never + 1 }.setRow s.never freshF true)
def give (s : Ar) (c : Int) : Bool × Ar := if s.has c then (true, { s with tk := updI s.tk c false, free := s.free ++ [c] }) else (false, s)
def count (s : Ar) : Nat := (List.range s.never).countP fun c : Nat => s.tk c
structure Ok (s : Ar) : Prop where
  nv : s.never ≤ s.n
  cnt : s.free.length + s.count = s.never
  fr : ∀ c, c ∈ s.free → 0 ≤ c ∧ c < s.never ∧ s.tk c = false
  nd : s.free.Nodup
  out : ∀ c, s.tk c = true → 0 ≤ c ∧ c < s.never
  n1 : 1 ≤ s.n
  nm : s.n ≤ 65536
  bg : s.begun ≤ s.steps
  mo : -9223372036854775808 ≤ s.most ∧ s.most ≤ 9223372036854775807
theorem rows_len (s : Ar) : s.rows.length = s.n := by simp [rows]
theorem rows_get (s : Ar) {c : Nat} (h : c < s.n) : s.rows[c]? = some (s.row c) := by simp [rows, h]
theorem row_get (s : Ar) (c : Int) : ∀ {k : Nat}, k < 10 → (s.row c)[k]? = some (.int .i64 (s.f c k))
  | 0, _ => rfl | 1, _ => rfl | 2, _ => rfl | 3, _ => rfl | 4, _ => rfl | 5, _ => rfl | 6, _ => rfl | 7, _ => rfl | 8, _ => rfl | 9, _ => rfl
  | k + 10, h => absurd h (by omega)
theorem rows_upd {s s' : Ar} {c : Nat} (hn : s'.n = s.n) (hc : c < s.n) (hr : ∀ i : Nat, i ≠ c → s'.row i = s.row i) : s'.rows = s.rows.set c (s'.row c) := by
  apply List.ext_getElem?
  intro i
  by_cases hi : i < s.n
  · rw [rows_get s' (by omega)]
    by_cases hci : c = i
    · subst hci
      rw [List.getElem?_set_self (by rw [rows_len]; exact hc)]
    · rw [List.getElem?_set_ne hci, rows_get s hi, hr i (by omega)]
  · rw [List.getElem?_eq_none (by rw [rows_len]; omega), List.getElem?_eq_none (by rw [List.length_set, rows_len]; omega)]
theorem row_put (s : Ar) (c : Int) (v : Int) : ∀ {k : Nat}, k < 10 → ({ s with f := updI s.f c (updI (s.f c) k v) } : Ar).row c = (s.row c).set k (.int .i64 v)
  | 0, _ => by simp [row, updI] | 1, _ => by simp [row, updI] | 2, _ => by simp [row, updI] | 3, _ => by simp [row, updI] | 4, _ => by simp [row, updI] | 5, _ => by simp [row, updI] | 6, _ => by simp [row, updI] | 7, _ => by simp [row, updI] | 8, _ => by simp [row, updI] | 9, _ => by simp [row, updI]
  | k + 10, h => absurd h (by omega)
theorem rows_setRow (s : Ar) {c : Nat} (h : c < s.n) (g : Int → Int) (b : Bool) : (s.setRow c g b).rows = s.rows.set c ((s.setRow c g b).row c) := by
  apply List.ext_getElem?
  intro i
  by_cases hi : i < s.n
  · rw [rows_get (s.setRow c g b) hi]
    by_cases hc : c = i
    · subst hc
      rw [List.getElem?_set_self (by rw [rows_len]; exact h)]
    · rw [List.getElem?_set_ne hc, rows_get s hi]
      have : (i : Int) ≠ (c : Int) := by omega
      simp [row, setRow, updI, this]
  · rw [List.getElem?_eq_none (by simp [rows, setRow]; omega), List.getElem?_eq_none (by simp [rows]; omega)]
theorem has_iff {s : Ar} {c : Int} : s.has c = true ↔ 0 ≤ c ∧ c < s.n ∧ s.tk c = true := by simp [has, and_assoc]
theorem Ok.has {s : Ar} (h : s.Ok) (c : Int) : s.has c = s.tk c := by
  cases ht : s.tk c with
  | true => have := h.out c ht; have := h.nv; exact has_iff.2 ⟨by omega, by omega, ht⟩
  | false => simp [Ar.has, ht]
end Ar
theorem nil_or_snoc {α : Type} (l : List α) : l = [] ∨ ∃ fs c, l = fs ++ [c] := by
  rcases List.eq_nil_or_concat l with h | ⟨fs, c, h⟩
  · exact .inl h
  · exact .inr ⟨fs, c, by simpa using h⟩
theorem count_far (p : Int → Bool) (c : Int) (b : Bool) : ∀ n : Nat, (n : Int) ≤ c ∨ c < 0 → ((List.range n).countP fun i : Nat => updI p c b i) = (List.range n).countP fun i : Nat => p i
  | 0, _ => rfl
  | n + 1, h => by
    rw [List.range_succ, List.countP_append, List.countP_append, count_far p c b n (by omega)]
    have : (n : Int) ≠ c := by omega
    simp [updI, this]
theorem count_upd (p : Int → Bool) (c : Int) (b : Bool) (hc : 0 ≤ c) : ∀ n : Nat, c < n → ((List.range n).countP fun i : Nat => updI p c b i) + (if p c then 1 else 0) = ((List.range n).countP fun i : Nat => p i) + (if b then 1 else 0)
  | 0, h => by omega
  | n + 1, h => by
    rw [List.range_succ, List.countP_append, List.countP_append]
    by_cases hn : c = n
    · subst hn
      rw [count_far p _ b n (by omega)]
      simp only [List.countP_cons, List.countP_nil, updI_same]
      cases p n <;> cases b <;> simp
    · have h2 := count_upd p c b hc n (by omega)
      have : (n : Int) ≠ c := fun e => hn e.symm
      simp only [List.countP_cons, List.countP_nil, updI_ne p b this]
      omega
namespace Ar
theorem Ok.tick {s : Ar} (h : s.Ok) (k : Nat) : (s.tick k).Ok := ⟨h.nv, h.cnt, h.fr, h.nd, h.out, h.n1, h.nm, by have := h.bg; show s.begun ≤ s.steps + k; omega, h.mo⟩
theorem Ok.put {s : Ar} (h : s.Ok) (c k v : Int) : (s.put c k v).Ok := by
  unfold Ar.put
  split
  · exact ⟨h.nv, h.cnt, h.fr, h.nd, h.out, h.n1, h.nm, h.bg, h.mo⟩
  · exact h
theorem Ok.give {s : Ar} (h : s.Ok) (c : Int) : (s.give c).2.Ok := by
  unfold Ar.give
  split
  · rename_i hc
    obtain ⟨h1, h2, h3⟩ := has_iff.1 hc
    have ho := h.out c h3
    refine ⟨h.nv, ?_, ?_, ?_, ?_, h.n1, h.nm, h.bg, h.mo⟩
    · have := count_upd s.tk c false h1 s.never ho.2
      have h4 := h.cnt
      simp only [h3, if_true] at this
      simp only [List.length_append, List.length_singleton, Ar.count] at h4 ⊢
      simp at this
      omega
    · intro d hd
      rcases List.mem_append.1 hd with hd | hd
      · obtain ⟨a, b, e⟩ := h.fr d hd
        refine ⟨a, b, ?_⟩
        by_cases hdc : d = c
        · subst hdc; exact updI_same _ _ _
        · exact (updI_ne _ _ hdc).trans e
      · simp at hd
        subst hd
        exact ⟨ho.1, ho.2, updI_same _ _ _⟩
    · rw [List.nodup_append]
      refine ⟨h.nd, by simp, ?_⟩
      intro a ha b hb
      simp at hb
      subst hb
      intro hab
      subst hab
      have := (h.fr a ha).2.2
      rw [h3] at this
      cases this
    · intro d hd
      by_cases hdc : d = c
      · subst hdc; have hd' : updI s.tk d false d = true := hd; rw [updI_same] at hd'; cases hd'
      · exact h.out d ((updI_ne _ _ hdc).symm.trans hd)
  · exact h
theorem take_free {s : Ar} {fs : List Int} {c : Int} (h : s.free = fs ++ [c]) : s.take = (c, true, { s with free := fs }.setRow c freshF true) := by simp [take, h]
theorem take_new {s : Ar} (h : s.free = []) (h2 : s.never < s.n) : s.take = ((s.never : Int), true, { s with never := s.never + 1 }.setRow s.never freshF true) := by simp only [take, h, List.getLast?_nil]; rw [if_neg (by omega)]
theorem take_none {s : Ar} (h : s.free = []) (h2 : s.n ≤ s.never) : s.take = (-1, false, s) := by simp only [take, h, List.getLast?_nil]; rw [if_pos h2]
theorem Ok.take {s : Ar} (h : s.Ok) : s.take.2.2.Ok := by
  rcases nil_or_snoc s.free with h0 | ⟨fs, c, hfc⟩
  · by_cases h2 : s.never < s.n
    · rw [take_new h0 h2]
      have hn : s.tk s.never = false := by
        cases hx : s.tk s.never with
        | false => rfl
        | true => have := h.out _ hx; omega
      refine ⟨h2, ?_, ?_, ?_, ?_, h.n1, h.nm, h.bg, h.mo⟩
      · have h3 := count_upd s.tk s.never true (by omega) (s.never + 1) (by omega)
        have h4 := h.cnt
        have h5 : ((List.range (s.never + 1)).countP fun i : Nat => s.tk i) = s.count := by rw [List.range_succ, List.countP_append]; simp [hn, Ar.count]
        rw [h5, hn] at h3
        simp only [setRow, Ar.count] at h3 h4 ⊢
        simp at h3
        rw [h3]
        omega
      · intro d hd
        have hd' : d ∈ s.free := hd
        rw [h0] at hd'
        cases hd'
      · exact h.nd
      · intro d hd
        by_cases hdc : d = s.never
        · subst hdc; exact ⟨by omega, by simp [setRow]; omega⟩
        · have := h.out d ((updI_ne _ _ hdc).symm.trans hd); exact ⟨this.1, by simp [setRow]; omega⟩
    · rw [take_none h0 (by omega)]; exact h
  · rw [take_free hfc]
    have hc := h.fr c (by rw [hfc]; simp)
    refine ⟨h.nv, ?_, ?_, ?_, ?_, h.n1, h.nm, h.bg, h.mo⟩
    · have h3 := count_upd s.tk c true hc.1 s.never hc.2.1
      have h4 := h.cnt
      rw [hfc] at h4
      rw [hc.2.2] at h3
      simp only [setRow, Ar.count, List.length_append, List.length_singleton] at h3 h4 ⊢
      simp at h3
      rw [h3]
      omega
    · intro d hd
      have hd' : d ∈ fs := hd
      obtain ⟨a, b, e⟩ := h.fr d (by rw [hfc]; simp [hd'])
      refine ⟨a, b, ?_⟩
      have hnd := h.nd
      rw [hfc, List.nodup_append] at hnd
      exact (updI_ne _ _ (hnd.2.2 d hd' c (by simp))).trans e
    · have hnd := h.nd
      rw [hfc, List.nodup_append] at hnd
      exact hnd.1
    · intro d hd
      by_cases hdc : d = c
      · subst hdc; exact ⟨hc.1, hc.2.1⟩
      · exact h.out d ((updI_ne _ _ hdc).symm.trans hd)
end Ar
structure ArM where
  p : Nat
  g : Nat
  cp : Nat
  m : Nat
def ArM.es (X : ArM) (vf : Value) (s : Ar) : List Ent :=
  [blkE X.p 97 #[.slice (some ⟨X.g, 0, none⟩) s.n X.cp, .int .i64 (s.never : Int), vf, .pointer (some ⟨X.m, 0, none⟩)], tabE 173 11 (.slice (some ⟨X.g, 0, none⟩) s.n X.cp) s.rows, tabE 3 1 vf s.frees, blkE X.m 99 #[.int .i64 (cap s.steps), .int .i64 (cap s.begun), .int .i64 s.most]]
section
variable {B : Nat} {w0 w : World} {X : ArM} {vf : Value} {s : Ar} {es : List Ent}
theorem ArM.blk (h : Led B w0 w (X.es vf s ++ es)) : Blk w X.p 97 #[.slice (some ⟨X.g, 0, none⟩) s.n X.cp, .int .i64 (s.never : Int), vf, .pointer (some ⟨X.m, 0, none⟩)] := h.at_ 0 rfl
theorem ArM.tab (h : Led B w0 w (X.es vf s ++ es)) : TabIs w 0 173 11 (.slice (some ⟨X.g, 0, none⟩) s.n X.cp) s.rows := h.at_ 1 rfl
theorem ArM.fre (h : Led B w0 w (X.es vf s ++ es)) : TabIs w 0 3 1 vf s.frees := h.at_ 2 rfl
theorem ArM.store {f' : Int → Int → Int} {tk' : Int → Bool} {c j : Nat} {u : Value} (h : Led B w0 w (X.es vf s ++ es)) (hc : c < s.n) (hj : j < 11) (hrow : ({ s with f := f', tk := tk' } : Ar).row c = (s.row c).set j u) (hoth : ∀ i : Nat, i ≠ c → ({ s with f := f', tk := tk' } : Ar).row i = s.row i) :
    Led B w0 (w.setCell ⟨X.g, c * 11 + j, none⟩ u) (X.es vf { s with f := f', tk := tk' } ++ es) := by
  have h1 : TabIs w 0 173 11 (.slice (some ⟨X.g, 0, none⟩) s.n X.cp) s.rows := h.at_ 1 rfl
  have h2 := h1.set u (Ar.rows_get s hc) hj
  rw [← hrow, ← Ar.rows_upd (s := s) (s' := { s with f := f', tk := tk' }) rfl hc hoth] at h2
  exact h.step 1 rfl (tabE 173 11 (.slice (some ⟨X.g, 0, none⟩) s.n X.cp) ({ s with f := f', tk := tk' } : Ar).rows) ((Chg.refl _ _).setCell (p := ⟨X.g, c * 11 + j, none⟩) (.inl (by simp [tabE, Value.ownBlock])) u) h2 (Fresh.refl _ _)
theorem ArM.met (h : Led B w0 w (X.es vf s ++ es)) : Blk w X.m 99 #[.int .i64 (cap s.steps), .int .i64 (cap s.begun), .int .i64 s.most] := h.at_ 3 rfl
end
end Go.Proofs.YtognmhgdegpdiaaGreat
end
section
/- The arena: what each call of it does. -/
namespace Go.Proofs.YtognmhgdegpdiaaGreat
open Go.RowKit
set_option linter.unusedVariables false
set_option linter.unusedSimpArgs false
set_option maxRecDepth 100000
def addS (a b : Int) : Int := if 0 < b ∧ 9223372036854775807 - b < a then 9223372036854775807 else if b < 0 ∧ a < -9223372036854775808 - b then -9223372036854775808 else a + b
theorem cap_add (n : Nat) : addS (cap n) 1 = cap (n + 1) := by unfold addS cap; split <;> split <;> (try split) <;> (try split) <;> omega
theorem cap_in (n : Nat) : 0 ≤ cap n ∧ cap n ≤ 9223372036854775807 := by unfold cap; split <;> omega
theorem order_add (a b : Int) (w : World) (ha1 : -9223372036854775808 ≤ a) (ha2 : a ≤ 9223372036854775807) (hb1 : -9223372036854775808 ≤ b) (hb2 : b ≤ 9223372036854775807) :
    Calls Tryz.prog 52 #[.int .i64 a, .int .i64 b] w fun e w' => e = .returned (.int .i64 (addS a b)) ∧ w = w' := by
  by_cases h1 : 0 < b
  · have g1 : decide (0 < b) = true := by simpa using h1
    have hw : IntKind.i64.wrap (9223372036854775807 - b) = 9223372036854775807 - b := by rw [IntKind.wrap_i64]; omega
    by_cases h2 : 9223372036854775807 - b < a
    · have g2 : decide (9223372036854775807 - b < a) = true := by simpa using h2
      refine callsR fun R hR => ?_
      go_enter Tryz.func52, Tryz.ntmps52
      go_wp2_with fail
      exact hR.out _ _ ⟨by unfold addS; rw [if_pos ⟨h1, h2⟩]; rfl, rfl⟩
    · have g2 : decide (9223372036854775807 - b < a) = false := by simpa using h2
      have g3 : decide (b < 0) = false := by simp; omega
      have hw2 : IntKind.i64.wrap (a + b) = a + b := by rw [IntKind.wrap_i64]; omega
      refine callsR fun R hR => ?_
      go_enter Tryz.func52, Tryz.ntmps52
      go_wp2_with fail
      exact hR.out _ _ ⟨by unfold addS; rw [if_neg (by omega), if_neg (by omega)], rfl⟩
  · have g1 : decide (0 < b) = false := by simpa using h1
    by_cases h3 : b < 0
    · have g3 : decide (b < 0) = true := by simpa using h3
      have hw : IntKind.i64.wrap (-9223372036854775808 - b) = -9223372036854775808 - b := by rw [IntKind.wrap_i64]; omega
      by_cases h2 : a < -9223372036854775808 - b
      · have g2 : decide (a < -9223372036854775808 - b) = true := by simpa using h2
        refine callsR fun R hR => ?_
        go_enter Tryz.func52, Tryz.ntmps52
        go_wp2_with fail
        exact hR.out _ _ ⟨by unfold addS; rw [if_neg (by omega), if_pos ⟨h3, h2⟩], rfl⟩
      · have g2 : decide (a < -9223372036854775808 - b) = false := by simpa using h2
        have hw2 : IntKind.i64.wrap (a + b) = a + b := by rw [IntKind.wrap_i64]; omega
        refine callsR fun R hR => ?_
        go_enter Tryz.func52, Tryz.ntmps52
        go_wp2_with fail
        exact hR.out _ _ ⟨by unfold addS; rw [if_neg (by omega), if_neg (by omega)], rfl⟩
    · have g3 : decide (b < 0) = false := by simpa using h3
      have hw2 : IntKind.i64.wrap (a + b) = a + b := by rw [IntKind.wrap_i64]; omega
      refine callsR fun R hR => ?_
      go_enter Tryz.func52, Tryz.ntmps52
      go_wp2_with fail
      exact hR.out _ _ ⟨by unfold addS; rw [if_neg (by omega), if_neg (by omega)], rfl⟩
section
variable {B : Nat} {w0 w : World} {A C : List Ent} {vf : Value}
theorem led_cell {B : Nat} {w0 w : World} {A C : List Ent} {g : Nat} {T : TypeId} {cs : Array Value} (i : Nat) (u : Value) (h : Led B w0 w (A ++ blkE g T cs :: C)) : Led B w0 (w.setCell ⟨g, i, none⟩ u) (A ++ blkE g T (cs.setIfInBounds i u) :: C) :=
  h.mid _ ((Chg.refl _ _).setCell (p := ⟨g, i, none⟩) (.inl (by simp [blkE])) u) (h.mem.set_ i u) (Fresh.refl _ _)
theorem meter_tick (m k : Nat) (u v : Value) (h : Led B w0 w (A ++ blkE m 99 #[.int .i64 (cap k), u, v] :: C)) :
    Calls Tryz.prog 139 #[.pointer (some ⟨m, 0, none⟩), .int .i64 1] w fun e w' => e = .returned (.tuple #[]) ∧ Led B w0 w' (A ++ blkE m 99 #[.int .i64 (cap (k + 1)), u, v] :: C) := by
  have hb : Blk w m 99 #[.int .i64 (cap k), u, v] := h.mem
  have hlt := hb.lt
  have hc := cap_in k
  have c0 := hb.cell 0; have fc0 := hb.frozen 0; simp only [List.getElem?_toArray, List.getElem?_cons_zero] at c0
  have H := Lib.hid h
  clear h hb
  refine callsR fun R hR => ?_
  go_enter Tryz.func139, Tryz.ntmps139
  go_wp2_with fail
  refine Calls.mono (order_add (cap k) 1 _ (by omega) (by omega) (by omega) (by omega)) ?_
  rintro e w' ⟨rfl, rfl⟩
  go_wp2_with fail
  refine bodyPost_end (results_none rfl _ _ _) rfl (hR.out _ _ ⟨rfl, ?_⟩)
  have := led_cell 0 (.int .i64 (cap (k + 1))) H.out
  rw [cap_add]
  simpa using this
theorem ar_tick (X : ArM) (s : Ar) (h : Led B w0 w (X.es vf s ++ C)) :
    Calls Tryz.prog 139 #[.pointer (some ⟨X.m, 0, none⟩), .int .i64 1] w fun e w' => e = .returned (.tuple #[]) ∧ Led B w0 w' (X.es vf (s.tick 1) ++ C) :=
  Calls.mono (meter_tick (A := (X.es vf s).take 3) X.m s.steps _ _ h) fun e w' h => h
theorem ar_live (X : ArM) (s : Ar) (c : Int) (h : Led B w0 w (X.es vf s ++ C)) :
    Calls Tryz.prog 153 #[.pointer (some ⟨X.p, 0, none⟩), .int .i64 c] w fun e w' => e = .returned (.bool (s.has c)) ∧ w = w' := by
  have hb := ArM.blk h
  have hlt := hb.lt
  have ht := ArM.tab h
  have q0 := hb.cell 0; have fq0 := hb.frozen 0; simp only [List.getElem?_toArray, List.getElem?_cons_zero] at q0
  clear hb
  by_cases h1 : 0 ≤ c
  · obtain ⟨c, rfl⟩ := Int.eq_ofNat_of_zero_le h1
    have g1 : decide (0 ≤ (c : Int)) = true := by simp
    by_cases h2 : c < s.n
    · have g2 : decide ((c : Int) < (s.n : Int)) = true := by simp; omega
      have t1 : w.cell? ⟨X.g, c * 11 + 10, none⟩ = some (.bool (s.tk c)) := ht.cell (j := 10) (Ar.rows_get s h2) rfl
      have g3 : s.has c = s.tk c := by simp [Ar.has, h2]
      clear h ht
      refine callsR fun R hR => ?_
      go_enter Tryz.func153, Tryz.ntmps153
      go_wp2_with fail
      exact hR.out _ _ ⟨by rw [g3] <;> rfl, rfl⟩
    · have g2 : decide ((c : Int) < (s.n : Int)) = false := by simp; omega
      have g3 : s.has c = false := by simp [Ar.has, h2]
      clear h ht
      refine callsR fun R hR => ?_
      go_enter Tryz.func153, Tryz.ntmps153
      go_wp2_with fail
      exact hR.out _ _ ⟨by rw [g3] <;> rfl, rfl⟩
  · have g1 : decide (0 ≤ c) = false := by simpa using h1
    have g3 : s.has c = false := by simp [Ar.has, h1]
    clear h ht
    refine callsR fun R hR => ?_
    go_enter Tryz.func153, Tryz.ntmps153
    go_wp2_with fail
    exact hR.out _ _ ⟨by rw [g3] <;> rfl, rfl⟩
theorem ar_has (X : ArM) (s : Ar) (c k : Int) (hk : 0 ≤ k ∧ k < 10) (h : Led B w0 w (X.es vf s ++ C)) :
    Calls Tryz.prog 141 #[.pointer (some ⟨X.p, 0, none⟩), .int .i64 c, .int .i64 k] w fun e w' => e = .returned (.bool (s.has c)) ∧ w = w' := by
  have g1 : decide (0 ≤ k) = true := by simpa using hk.1
  have g2 : decide (k < 10) = true := by simpa using hk.2
  have H := Lib.hid h
  clear h
  cases g3 : s.has c
  all_goals
    refine callsR fun R hR => ?_
    go_enter Tryz.func141, Tryz.ntmps141
    go_wp2_with fail
    refine Calls.mono (ar_live X s c H.out) ?_
    rintro e w' ⟨rfl, rfl⟩
    rw [g3]
    go_wp2_with fail
    exact hR.out _ _ ⟨rfl, rfl⟩
theorem ar_get (X : ArM) (s : Ar) (c k : Int) (hk : 0 ≤ k ∧ k < 10) (h : Led B w0 w (X.es vf s ++ C)) :
    Calls Tryz.prog 110 #[.pointer (some ⟨X.p, 0, none⟩), .int .i64 c, .int .i64 k] w fun e w' => e = .returned (.int .i64 (s.get c k)) ∧ Led B w0 w' (X.es vf (s.tick 1) ++ C) := by
  have hb := ArM.blk h
  obtain ⟨q0, q1, q2, q3, fq0, fq1, fq2, fq3⟩ := hb.c4
  have H := Lib.hid h
  clear h hb
  refine callsR fun R hR => ?_
  go_enter Tryz.func110, Tryz.ntmps110
  go_wp2_with fail
  refine Calls.mono (ar_tick X s H.out) ?_
  rintro e w1 ⟨rfl, h1⟩
  have H1 := Lib.hid h1
  have hb := ArM.blk h1
  have ht := ArM.tab h1
  clear q0 q1 q2 q3 fq0 fq1 fq2 fq3 H h1
  obtain ⟨q0, q1, q2, q3, fq0, fq1, fq2, fq3⟩ := hb.c4
  go_wp2_with fail
  refine Calls.mono (ar_has X (s.tick 1) c k hk H1.out) ?_
  rintro e w' ⟨rfl, rfl⟩
  rw [show (s.tick 1).has c = s.has c from rfl]
  cases g : s.has c with
  | false =>
    clear ht
    go_wp2_with fail
    exact hR.out _ _ ⟨by rw [Ar.get, g] <;> rfl, H1.out⟩
  | true =>
    obtain ⟨hc0, hcn, _⟩ := Ar.has_iff.1 g
    obtain ⟨c, rfl⟩ := Int.eq_ofNat_of_zero_le hc0
    obtain ⟨k, rfl⟩ := Int.eq_ofNat_of_zero_le hk.1
    have hlt : c < s.n := by omega
    have hkl : k < 10 := by omega
    have t1 : w1.cell? ⟨X.g, c * 11 + k, none⟩ = some (.int .i64 (s.f c k)) := ht.cell (j := k) (Ar.rows_get (s.tick 1) hlt) (Ar.row_get _ _ hkl)
    clear ht
    have e1 : (s.tick 1).n = s.n := rfl
    simp only [e1] at *
    go_wp2_with fail
    exact hR.out _ _ ⟨by rw [Ar.get, g] <;> rfl, H1.out⟩
theorem ar_set (X : ArM) (s : Ar) (c k v : Int) (hk : 0 ≤ k ∧ k < 10) (h : Led B w0 w (X.es vf s ++ C)) :
    Calls Tryz.prog 89 #[.pointer (some ⟨X.p, 0, none⟩), .int .i64 c, .int .i64 k, .int .i64 v] w fun e w' => e = .returned (.bool (s.has c)) ∧ Led B w0 w' (X.es vf ((s.put c k v).tick 1) ++ C) := by
  have hb := ArM.blk h
  obtain ⟨q0, q1, q2, q3, fq0, fq1, fq2, fq3⟩ := hb.c4
  have H := Lib.hid h
  clear h hb
  refine callsR fun R hR => ?_
  go_enter Tryz.func89, Tryz.ntmps89
  go_wp2_with fail
  refine Calls.mono (ar_tick X s H.out) ?_
  rintro e w1 ⟨rfl, h1⟩
  have H1 := Lib.hid h1
  have hb := ArM.blk h1
  have ht := ArM.tab h1
  clear q0 q1 q2 q3 fq0 fq1 fq2 fq3 H h1
  obtain ⟨q0, q1, q2, q3, fq0, fq1, fq2, fq3⟩ := hb.c4
  go_wp2_with fail
  refine Calls.mono (ar_has X (s.tick 1) c k hk H1.out) ?_
  rintro e w' ⟨rfl, rfl⟩
  rw [show (s.tick 1).has c = s.has c from rfl]
  cases g : s.has c with
  | false =>
    clear ht
    go_wp2_with fail
    exact hR.out _ _ ⟨by rw [g] <;> rfl, by rw [Ar.put, g]; exact H1.out⟩
  | true =>
    obtain ⟨hc0, hcn, _⟩ := Ar.has_iff.1 g
    obtain ⟨c, rfl⟩ := Int.eq_ofNat_of_zero_le hc0
    obtain ⟨k, rfl⟩ := Int.eq_ofNat_of_zero_le hk.1
    have hlt : c < s.n := by omega
    have hkl : k < 10 := by omega
    have t1 : w1.cell? ⟨X.g, c * 11 + k, none⟩ = some (.int .i64 (s.f c k)) := ht.cell (j := k) (Ar.rows_get (s.tick 1) hlt) (Ar.row_get _ _ hkl)
    have ft1 := ht.frozen (c * 11 + k)
    have lt1 : X.g < w1.heap.size := (ht.lt X.g (by simp [Value.ownBlock])).2
    clear ht
    have e1 : (s.tick 1).n = s.n := rfl
    simp only [e1] at *
    go_wp2_with fail
    refine hR.out _ _ ⟨by rw [g] <;> rfl, ?_⟩
    have hfar : ∀ i : Nat, i ≠ c → ({ s.tick 1 with f := updI s.f c (updI (s.f c) k v), tk := s.tk } : Ar).row i = (s.tick 1).row i := fun i hi => by
      have : (i : Int) ≠ (c : Int) := by omega
      simp [Ar.row, updI, this, Ar.tick]
    have := ArM.store (s := s.tick 1) (f' := updI s.f c (updI (s.f c) k v)) (tk' := s.tk) (c := c) (j := k) (u := .int .i64 v) H1.out hlt (by omega) (Ar.row_put (s.tick 1) c v hkl) hfar
    rw [Ar.put, if_pos g]
    exact this
theorem ar_cell (X : ArM) (s : Ar) (c k : Int) (hk : 0 ≤ k ∧ k < 10) (h : Led B w0 w (X.es vf s ++ C)) :
    Calls Tryz.prog 151 #[.pointer (some ⟨X.p, 0, none⟩), .int .i64 c, .int .i64 k] w fun e w' => e = .returned (.int .i64 (s.cell c k)) ∧ Led B w0 w' (X.es vf (s.tick 1) ++ C) := by
  have H := Lib.hid h
  clear h
  refine callsR fun R hR => ?_
  go_enter Tryz.func151, Tryz.ntmps151
  go_wp2_with fail
  refine Calls.mono (ar_get X s c k hk H.out) ?_
  rintro e w1 ⟨rfl, h1⟩
  have H1 := Lib.hid h1
  have hb := ArM.blk h1
  clear H h1
  obtain ⟨q0, q1, q2, q3, fq0, fq1, fq2, fq3⟩ := hb.c4
  have e1 : (s.tick 1).n = s.n := rfl
  simp only [e1] at *
  by_cases a1 : s.get c k < 0
  · have g1 : decide (s.get c k < 0) = true := by simpa using a1
    go_wp2_with fail
    exact hR.out _ _ ⟨by rw [Ar.cell, if_pos (.inl a1)] <;> rfl, H1.out⟩
  · have g1 : decide (s.get c k < 0) = false := by simpa using a1
    by_cases a2 : (s.n : Int) ≤ s.get c k
    · have g2 : decide ((s.n : Int) ≤ s.get c k) = true := by simpa using a2
      go_wp2_with fail
      exact hR.out _ _ ⟨by rw [Ar.cell, if_pos (.inr a2)] <;> rfl, H1.out⟩
    · have g2 : decide ((s.n : Int) ≤ s.get c k) = false := by simpa using a2
      go_wp2_with fail
      exact hR.out _ _ ⟨by rw [Ar.cell, if_neg (by omega)], H1.out⟩
end
end Go.Proofs.YtognmhgdegpdiaaGreat
end
section
/- The arena: the meter's numbers, places that are given back and taken. -/
namespace Go.Proofs.YtognmhgdegpdiaaGreat
open Go.RowKit
set_option linter.unusedVariables false
set_option linter.unusedSimpArgs false
set_option maxRecDepth 100000
def Ar.spent (s : Ar) : Int := cap s.steps - cap s.begun
def Ar.mostOf (s : Ar) : Int := max s.most s.spent
def Ar.begin_ (s : Ar) : Ar := { s with begun := s.steps, most := s.mostOf }
theorem cap_mono {a b : Nat} (h : a ≤ b) : cap a ≤ cap b := by unfold cap; split <;> split <;> omega
theorem Ar.spent_in {s : Ar} (h : s.begun ≤ s.steps) : 0 ≤ s.spent ∧ s.spent ≤ 9223372036854775807 := by
  have := cap_mono h; have := cap_in s.steps; have := cap_in s.begun; unfold Ar.spent; omega
section
variable {B : Nat} {w0 w : World} {C : List Ent} {vf : Value}
theorem meter_spent (X : ArM) (s : Ar) (hb : s.begun ≤ s.steps) (h : Led B w0 w (X.es vf s ++ C)) :
    Calls Tryz.prog 45 #[.pointer (some ⟨X.m, 0, none⟩)] w fun e w' => e = .returned (.int .i64 s.spent) ∧ Led B w0 w' (X.es vf s ++ C) := by
  have hm := ArM.met h
  have hw : IntKind.i64.wrap (cap s.steps - cap s.begun) = s.spent := by have := Ar.spent_in hb; rw [IntKind.wrap_i64]; unfold Ar.spent at *; omega
  obtain ⟨c0, c1, c2, fc0, fc1, fc2⟩ := hm.c3
  have H := Lib.hid h
  clear h hm
  refine callsR fun R hR => ?_
  go_enter Tryz.func45, Tryz.ntmps45
  go_upto_region 1 with fail
  go_region_held3 (fun wx => wx.cell? ⟨X.m, 0, none⟩ = some (.int .i64 (cap s.steps)) ∧ wx.cell? ⟨X.m, 1, none⟩ = some (.int .i64 (cap s.begun))) (exact ⟨c0, c1⟩) (fail)
  go_wp2_with fail
  exact hR.out _ _ ⟨by rw [← hw] <;> rfl, H.out.drew⟩
theorem meter_most (X : ArM) (s : Ar) (hb : s.begun ≤ s.steps) (h : Led B w0 w (X.es vf s ++ C)) :
    Calls Tryz.prog 56 #[.pointer (some ⟨X.m, 0, none⟩)] w fun e w' => e = .returned (.int .i64 s.mostOf) ∧ Led B w0 w' (X.es vf s ++ C) := by
  have HS : Hid (∀ W, Led B w0 W (X.es vf s ++ C) → W.cell? ⟨X.m, 2, none⟩ = some (.int .i64 s.most)) := Lib.hid fun W hW => (ArM.met hW).cell 2
  have H := Lib.hid h
  clear h
  refine callsR fun R hR => ?_
  go_enter Tryz.func56, Tryz.ntmps56
  go_upto_region 1 with fail
  have c0 := HS.out _ H.out
  go_region_held3 (fun wx => wx.cell? ⟨X.m, 2, none⟩ = some (.int .i64 s.most)) (first | exact c0 | exact HS.out _ S4.out) (first | (go_at_call 45; refine Calls.mono (meter_spent X s hb H.out.drew) ?_; rintro e w2 ⟨rfl, q2⟩; have S4 := Lib.hid q2; clear q2))
  go_wp2_with fail
  exact hR.out _ _ ⟨rfl, S4.out⟩
theorem meter_begin (X : ArM) (s : Ar) (hb : s.begun ≤ s.steps) (h : Led B w0 w (X.es vf s ++ C)) :
    Calls Tryz.prog 29 #[.pointer (some ⟨X.m, 0, none⟩)] w fun e w' => e = .returned (.tuple #[]) ∧ Led B w0 w' (X.es vf s.begin_ ++ C) := by
  have HS : Hid (∀ W, Led B w0 W (X.es vf s ++ C) → ∀ wx, Chg [] W wx → wx.cell? ⟨X.m, 0, none⟩ = some (.int .i64 (cap s.steps))) := Lib.hid fun W hW wx hx => (ArM.met (hW.later (hx.below (by simp) (Nat.le_refl _)))).cell 0
  have H := Lib.hid h
  clear h
  refine callsR fun R hR => ?_
  go_enter Tryz.func29, Tryz.ntmps29
  have c0 := HS.out _ H.out.drew _ (Chg.refl _ _)
  go_region_held3 (fun wx => wx.cell? ⟨X.m, 0, none⟩ = some (.int .i64 (cap s.steps))) (first | exact c0 | exact d0 | exact D1.out _ | exact D2.out _ _ | exact D3.out _ | exact D4.out _ _) (first | (go_at_call 56; refine Calls.mono (meter_most X s hb H.out.drew) ?_; rintro e w2 ⟨rfl, q2⟩; have S4 := Lib.hid q2; have d0 := (ArM.met q2).cell 0; have d1 := (ArM.met q2).cell 1; have d2 := (ArM.met q2).cell 2; have fd1 := (ArM.met q2).frozen 1; have fd2 := (ArM.met q2).frozen 2; simp only [List.getElem?_toArray, List.getElem?_cons_zero, List.getElem?_cons_succ] at d0 d1 d2; have D1 : Hid (∀ u, (w2.setCell ⟨X.m, 2, none⟩ u).cell? ⟨X.m, 0, none⟩ = some (.int .i64 (cap s.steps))) := Lib.hid fun u => ((ArM.met q2).set_ 2 u).cell 0; have D2 : Hid (∀ u v, ((w2.setCell ⟨X.m, 2, none⟩ u).setCell ⟨X.m, 1, none⟩ v).cell? ⟨X.m, 0, none⟩ = some (.int .i64 (cap s.steps))) := Lib.hid fun u v => (((ArM.met q2).set_ 2 u).set_ 1 v).cell 0; have D3 : Hid (∀ u, (w2.setCell ⟨X.m, 1, none⟩ u).cell? ⟨X.m, 0, none⟩ = some (.int .i64 (cap s.steps))) := Lib.hid fun u => ((ArM.met q2).set_ 1 u).cell 0; have D4 : Hid (∀ u v, ((w2.setCell ⟨X.m, 1, none⟩ u).setCell ⟨X.m, 2, none⟩ v).cell? ⟨X.m, 0, none⟩ = some (.int .i64 (cap s.steps))) := Lib.hid fun u v => (((ArM.met q2).set_ 1 u).set_ 2 v).cell 0; have dl := (ArM.met q2).lt; clear q2))
  refine bodyPost_end (results_none rfl _ _ _) rfl (hR.out _ _ ⟨rfl, ?_⟩)
  have := led_cell (A := (X.es vf s).take 3) 1 (.int .i64 (cap s.steps)) (led_cell (A := (X.es vf s).take 3) 2 (.int .i64 s.mostOf) S4.out)
  exact this
theorem ar_meter (X : ArM) (s : Ar) (h : Led B w0 w (X.es vf s ++ C)) :
    Calls Tryz.prog 28 #[.pointer (some ⟨X.p, 0, none⟩)] w fun e w' => e = .returned (.pointer (some ⟨X.m, 0, none⟩)) ∧ w = w' := by
  have hb := ArM.blk h
  obtain ⟨q0, q1, q2, q3, fq0, fq1, fq2, fq3⟩ := hb.c4
  clear h hb
  refine callsR fun R hR => ?_
  go_enter Tryz.func28, Tryz.ntmps28
  go_wp2_with fail
  exact hR.out _ _ ⟨rfl, rfl⟩
theorem ar_cells (X : ArM) (s : Ar) (h : Led B w0 w (X.es vf s ++ C)) :
    Calls Tryz.prog 179 #[.pointer (some ⟨X.p, 0, none⟩)] w fun e w' => e = .returned (.int .i64 (s.n : Int)) ∧ w = w' := by
  have hb := ArM.blk h
  obtain ⟨q0, q1, q2, q3, fq0, fq1, fq2, fq3⟩ := hb.c4
  clear h hb
  refine callsR fun R hR => ?_
  go_enter Tryz.func179, Tryz.ntmps179
  go_wp2_with fail
  exact hR.out _ _ ⟨rfl, rfl⟩
theorem ar_give (X : ArM) (s : Ar) (c : Int) (hf : s.free.length ≤ 100000) (h : Led B w0 w (X.es vf s ++ C)) :
    Calls Tryz.prog 109 #[.pointer (some ⟨X.p, 0, none⟩), .int .i64 c] w fun e w' => ∃ vf', e = .returned (.bool (s.has c)) ∧ Led B w0 w' (X.es vf' ((s.give c).2.tick 1) ++ C) := by
  have hb := ArM.blk h
  obtain ⟨q0, q1, q2, q3, fq0, fq1, fq2, fq3⟩ := hb.c4
  have H := Lib.hid h
  clear h hb
  refine callsR fun R hR => ?_
  go_enter Tryz.func109, Tryz.ntmps109
  go_wp2_with fail
  refine Calls.mono (ar_tick X s H.out) ?_
  rintro e w1 ⟨rfl, h1⟩
  have H1 := Lib.hid h1
  have hb := ArM.blk h1
  have ht := ArM.tab h1
  clear q0 q1 q2 q3 fq0 fq1 fq2 fq3 H h1
  obtain ⟨q0, q1, q2, q3, fq0, fq1, fq2, fq3⟩ := hb.c4
  go_wp2_with fail
  refine Calls.mono (ar_live X (s.tick 1) c H1.out) ?_
  rintro e w' ⟨rfl, rfl⟩
  rw [show (s.tick 1).has c = s.has c from rfl]
  cases g : s.has c with
  | false =>
    clear ht
    go_wp2_with fail
    exact hR.out _ _ ⟨vf, by rw [g] <;> rfl, by rw [Ar.give, g]; exact H1.out⟩
  | true =>
    obtain ⟨hc0, hcn, _⟩ := Ar.has_iff.1 g
    obtain ⟨c, rfl⟩ := Int.eq_ofNat_of_zero_le hc0
    have hlt : c < s.n := by omega
    have ft1 := ht.frozen (c * 11 + 10)
    have t1 : w1.cell? ⟨X.g, c * 11 + 10, none⟩ = some (.bool (s.tk c)) := ht.cell (j := 10) (Ar.rows_get (s.tick 1) hlt) rfl
    have lt1 : X.g < w1.heap.size := (ht.lt X.g (by simp [Value.ownBlock])).2
    clear ht
    have e1 : (s.tick 1).n = s.n := rfl
    simp only [e1] at *
    have hfar : ∀ i : Nat, i ≠ c → ({ s.tick 1 with f := s.f, tk := updI s.tk c false } : Ar).row i = (s.tick 1).row i := fun i hi => by
      have : (i : Int) ≠ (c : Int) := by omega
      simp [Ar.row, updI, this, Ar.tick]
    have h2 := ArM.store (s := s.tick 1) (f' := s.f) (tk' := updI s.tk c false) (c := c) (j := 10) (u := .bool false) H1.out hlt (by omega) (by simp [Ar.row, updI, Ar.tick]) hfar
    have H2 := Lib.hid h2
    have fb := (ArM.blk h2).frozen 2
    have fc := (ArM.blk h2).cell 2
    have ltp := (ArM.blk h2).lt
    simp only [List.getElem?_toArray, List.getElem?_cons_zero, List.getElem?_cons_succ] at fc
    clear h2
    go_upto_region 5 with fail
    generalize w1.setCell ⟨X.g, c * 11 + 10, none⟩ (.bool false) = wy at H2 fb fc ltp ⊢
    have lf : s.frees.length ≤ 1000000000 := by rw [Ar.frees, List.length_map]; omega
    have hF : TabIs wy 0 3 1 vf s.frees := H2.out.at_ 2 rfl
    go_wp2_with (at_builtin; refine wpList_push (by rfl) (.tmp 25) (.tmp 27) 45 (by rfl) 0 3 _ 1 8 Tryz.underlying45 info_int_ (by rfl) (by decide) vf s.frees #[.int .i64 c] (by rfl) hF (by rfl) (by rfl) (by simp [Value.oneCell']) lf (by decide) (Nat.zero_le _) ?_; intro v' w' p1 p2 p3; obtain ⟨A', c', hv, _, _⟩ := p1.form; simp only [List.length_append, List.length_singleton] at hv; subst hv; have q4 := Lib.hid (H2.out.step 2 rfl (tabE 3 1 _ _) p2 p1 p3); have bb : Blk w' X.p 97 #[.slice (some ⟨X.g, 0, none⟩) s.n X.cp, .int .i64 (s.never : Int), vf, .pointer (some ⟨X.m, 0, none⟩)] := q4.out.at_ 0 rfl; have b2 := bb.cell 2; have fb2 := bb.frozen 2; clear p1 p2 p3 bb)
    refine hR.out _ _ ⟨.slice A' (s.frees.length + 1) c', by rw [g] <;> rfl, ?_⟩
    have h9 := led_cell (A := []) 2 (.slice A' (s.frees.length + 1) c') q4.out
    have hfr : (s.free ++ [(c : Int)]).map (fun x => [Value.int .i64 x]) = s.frees ++ [(#[Value.int .i64 (c : Int)] : Array Value).toList] := by simp [Ar.frees]
    rw [Ar.give, if_pos g]
    rw [← hfr] at h9
    exact h9
end
end Go.Proofs.YtognmhgdegpdiaaGreat
end
section
/- The arena: a new cell, a new arena. -/
namespace Go.Proofs.YtognmhgdegpdiaaGreat
open Go.RowKit
set_option linter.unusedVariables false
set_option linter.unusedSimpArgs false
set_option maxRecDepth 100000
set_option maxHeartbeats 4000000 in
theorem ar_fresh (w : World) :
    Calls Tryz.prog 140 #[] w fun e w' => e = .returned (.agg #[.int .i64 (-1), .int .i64 (-1), .int .i64 (-1), .int .i64 (-1), .int .i64 0, .int .i64 0, .int .i64 (-1), .int .i64 0, .int .i64 0, .int .i64 (-1), .bool true]) ∧ Below w.heap.size w w' := by
  refine callsR fun R hR => ?_
  go_enter Tryz.func140, Tryz.ntmps140
  go_wp2_with fail
  refine wp_loop_rounds 7 ?_
  repeat any_goals (rw [rounds_succ]; go_wp2_with fail)
  have hb := ((Blk.new w 173 #[.int .i64 (-1), .int .i64 (-1), .int .i64 (-1), .int .i64 (-1), .int .i64 0, .int .i64 0, .int .i64 (-1), .int .i64 0, .int .i64 0, .int .i64 (-1), .bool true]).alloc (.cells #[.int .i64 (-1), .int .i64 (-1), .int .i64 (-1), .int .i64 (-1), .int .i64 0, .int .i64 0, .int .i64 (-1), .int .i64 0, .int .i64 0, .int .i64 (-1), .bool true] 173)).alloc (.cells #[.int .i64 0, .int .i64 1, .int .i64 2, .int .i64 3, .int .i64 6, .int .i64 9] 3)
  obtain ⟨c0, c1, c2, c3, c4, c5, c6, c7, c8, c9, c10, fc0, fc1, fc2, fc3, fc4, fc5, fc6, fc7, fc8, fc9, fc10⟩ := hb.c11
  have lc := hb.lt
  exact bodyPost_ret (v := .agg #[.int .i64 (-1), .int .i64 (-1), .int .i64 (-1), .int .i64 (-1), .int .i64 0, .int .i64 0, .int .i64 (-1), .int .i64 0, .int .i64 0, .int .i64 (-1), .bool true]) (by simp [results, Tryz.results140, go_sem, c0, c1, c2, c3, c4, c5, c6, c7, c8, c9, c10]) rfl (hR.out _ _ ⟨rfl, (((Below.refl _ _).alloc (Nat.le_refl _) _).alloc (by simp) _).alloc (by simp; omega) _⟩)
def setList (r : List Value) (j : Nat) : List Value → List Value
  | [] => r
  | v :: vs => setList (r.set j v) (j + 1) vs
theorem chg_setCells (g : Nat) : ∀ (vs : List Value) (w w1 : World) (o : Nat), Chg [g] w w1 → Chg [g] w (w1.setCells g o vs)
  | [], _, _, _, h => h
  | v :: vs, w, w1, o, h => chg_setCells g vs w _ (o + 1) (h.setCell (p := ⟨g, o, none⟩) (.inl (by simp)) v)
theorem set_at {L : List (List Value)} {i : Nat} {r : List Value} (h : L[i]? = some r) : L.set i r = L := by
  apply List.ext_getElem?
  intro j
  by_cases hj : i = j
  · subst hj
    rw [List.getElem?_set_self (List.getElem?_eq_some_iff.1 h).1, h]
  · rw [List.getElem?_set_ne hj]
theorem TabIs.setCells_ {base : Nat} {e : TypeId} {sz g n cp i : Nat} : ∀ (vs : List Value) (j : Nat) (w : World) (L : List (List Value)) (r : List Value), TabIs w base e sz (.slice (some ⟨g, 0, none⟩) n cp) L → L[i]? = some r → j + vs.length ≤ sz → TabIs (w.setCells g (i * sz + j) vs) base e sz (.slice (some ⟨g, 0, none⟩) n cp) (L.set i (setList r j vs))
  | [], j, w, L, r, h, hi, _ => by rw [setList, set_at hi]; exact h
  | v :: vs, j, w, L, r, h, hi, hj => by
    simp only [List.length_cons] at hj
    have h2 := h.set v hi (show j < sz by omega)
    have h3 := TabIs.setCells_ vs (j + 1) _ _ _ h2 (List.getElem?_set_self (List.getElem?_eq_some_iff.1 hi).1) (by omega)
    rw [List.set_set] at h3
    exact h3
section
variable {B : Nat} {w0 w : World} {C : List Ent} {vf : Value}
def freshL : List Value := [.int .i64 (-1), .int .i64 (-1), .int .i64 (-1), .int .i64 (-1), .int .i64 0, .int .i64 0, .int .i64 (-1), .int .i64 0, .int .i64 0, .int .i64 (-1), .bool true]
theorem ArM.fresh (X : ArM) (s : Ar) {c : Nat} (hc : c < s.n) (h : Led B w0 w (X.es vf s ++ C)) : Led B w0 (w.setCells X.g (c * 11) freshL) (X.es vf (s.setRow c freshF true) ++ C) := by
  have h1 : TabIs w 0 173 11 (.slice (some ⟨X.g, 0, none⟩) s.n X.cp) s.rows := h.at_ 1 rfl
  have h2 := TabIs.setCells_ freshL 0 w _ _ h1 (Ar.rows_get s hc) (by decide)
  have e : setList (s.row c) 0 freshL = (s.setRow c freshF true).row c := by simp [setList, freshL, Ar.row, Ar.setRow, updI, freshF]
  rw [e, ← Ar.rows_setRow s hc] at h2
  exact h.step 1 rfl (tabE 173 11 (.slice (some ⟨X.g, 0, none⟩) s.n X.cp) (s.setRow c freshF true).rows) (chg_setCells X.g freshL w w (c * 11) (Chg.refl _ _)) h2 (Fresh.refl _ _)
end
end Go.Proofs.YtognmhgdegpdiaaGreat
end
section
/- The arena: a cell is taken. -/
namespace Go.Proofs.YtognmhgdegpdiaaGreat
open Go.RowKit
set_option linter.unusedVariables false
set_option linter.unusedSimpArgs false
set_option maxRecDepth 100000
theorem finE1 {a1 : Eff} {zs : List (Eff × Option Value)} (h : zs.map (·.1) = [a1]) (h2 : ∀ z, z ∈ zs → ∃ v, z.2 = some v) : ∃ v1, zs = [(a1, some v1)] := by
  rcases zs with _ | ⟨⟨x1, s1⟩, _ | ⟨q, zs⟩⟩
  all_goals simp at h
  subst h
  obtain ⟨v1, e1⟩ := h2 (x1, s1) (by simp)
  simp only at e1
  subst e1
  exact ⟨v1, rfl⟩
theorem wpOp_callW {P : Program} {ops : Array Oper} {Q : Exit → Act → World → Prop} {i : Nat} {o : Oper} {t : Tmp} {K : Act → World → Prop} {a : Act} {w : World} {f : FuncId} {vals : Array Value} {v : Value} {R : World → Prop} (hi : ops[i]? = some o) (hg : o.guard = none) (hd : o.dst = some t) (hy : (execOp a.eval o).run P w = .ok (.enter f vals) w) (hc : Calls P f vals w fun e w' => e = .returned v ∧ R w') (hK : ∀ w', R w' → K (a.put (some t) v) w') : wpOp P ops Q i K a w := by
  unfold wpOp
  simp only [hi]
  have hw : Region.wanted o (yielded ops a.tmps) = true := by simp [Region.wanted, hg]
  rw [if_pos hw]
  refine .inl ?_
  unfold Oper.wp
  rw [hy, Oper.upon_enter]
  refine Calls.mono hc ?_
  rintro e w' ⟨rfl, h⟩
  show K (a.put o.dst v) _
  rw [hd]
  exact hK _ h
section
variable {B : Nat} {w0 w : World} {C : List Ent} {vf : Value}
set_option maxHeartbeats 4000000 in
theorem ar_take (X : ArM) (s : Ar) (hok : s.Ok) (h : Led B w0 w (X.es vf s ++ C)) :
    Calls Tryz.prog 88 #[.pointer (some ⟨X.p, 0, none⟩)] w fun e w' => ∃ vf', e = .returned (.tuple #[.int .i64 s.take.1, .bool s.take.2.1]) ∧ Led B w0 w' (X.es vf' (s.take.2.2.tick 1) ++ C) := by
  have hb := ArM.blk h
  obtain ⟨q0, q1, q2, q3, fq0, fq1, fq2, fq3⟩ := hb.c4
  have hnm := hok.nm
  have hnv := hok.nv
  have H := Lib.hid h
  have HOK := Lib.hid hok
  clear h hb hok
  refine callsR fun R hR => ?_
  go_enter Tryz.func88, Tryz.ntmps88
  go_wp2_with fail
  refine Calls.mono (ar_tick X s H.out) ?_
  rintro e w1 ⟨rfl, h1⟩
  have H1 := Lib.hid h1
  have hb := ArM.blk h1
  have hfr := ArM.fre h1
  clear q0 q1 q2 q3 fq0 fq1 fq2 fq3 H h1
  obtain ⟨q0, q1, q2, q3, fq0, fq1, fq2, fq3⟩ := hb.c4
  have e1 : (s.tick 1).n = s.n := rfl
  have e2 : (s.tick 1).never = s.never := rfl
  simp only [e1, e2] at *
  obtain ⟨A, cf, hvf, hcf, hA⟩ := hfr.form
  rcases nil_or_snoc s.free with h0 | ⟨fs, c, hfc⟩
  · have hlen : (s.tick 1).frees.length = 0 := by simp [Ar.frees, Ar.tick, h0]
    rw [hlen] at hvf hcf
    rw [hvf] at q2
    have hw1 : IntKind.i64.wrap (((0 : Nat) : Int) - 1) = -1 := by rw [IntKind.wrap_i64]; omega
    by_cases hnn : s.never < s.n
    · have g2 : decide ((s.n : Int) ≤ (s.never : Int)) = false := by simp; omega
      have hcn : s.never < s.n := hnn
      have hw2 : IntKind.i64.wrap ((s.never : Int) + 1) = ((s.never + 1 : Nat) : Int) := by rw [IntKind.wrap_i64]; omega
      have g3 : decide (s.n ≤ s.never) = false := by simp; omega
      have H3 := Lib.hid (show Led B w0 (w1.setCell ⟨X.p, 1, none⟩ (.int .i64 ((s.never : Int) + 1))) (X.es vf { s.tick 1 with never := s.never + 1 } ++ C) from led_cell (A := []) 1 (.int .i64 ((s.never : Int) + 1)) H1.out)
      have ltp := (ArM.blk H1.out).lt
      clear hA hfr
      go_upto_region 10 with fail
      generalize w1.setCell ⟨X.p, 1, none⟩ (.int .i64 ((s.never : Int) + 1)) = w2 at H3 ⊢
      have HS : Hid (∀ W, Below w2.heap.size w2 W → W.cell? ⟨X.p, 0, none⟩ = some (.slice (some ⟨X.g, 0, none⟩) s.n X.cp)) := Lib.hid fun W hW => (ArM.blk (H3.out.later hW)).cell 0
      refine wp_region_held_drew (S := fun wx => wx.cell? ⟨X.p, 0, none⟩ = some (.slice (some ⟨X.g, 0, none⟩) s.n X.cp)) (by kernel_rfl) ?_ (fun hHeld => ?_)
      · exact HS.out _ (bel_drew (bel_refl _))
      refine wpAnyH_read (i := 0) (d := 53) (v := ?_) rfl rfl rfl (by kernel_rfl) (by kernel_rfl) (by kernel_rfl) (fun _ _ _ h => h) hHeld ?_ ?_
      rotate_left
      · intro w hSw
        (try dsimp only at hSw)
        go_simp
        (try with_reducible rfl)
      (try simp only [List.setIfInBounds_toArray, List.set_cons_zero, List.set_cons_succ])
      refine wpAnyH_read (i := 1) (d := 54) (v := ?_) rfl rfl rfl (by kernel_rfl) (by kernel_rfl) (by kernel_rfl) (fun _ _ _ h => h) hHeld ?_ ?_
      rotate_left
      · intro w hSw
        (try dsimp only at hSw)
        go_simp
        (try with_reducible rfl)
      (try simp only [List.setIfInBounds_toArray, List.set_cons_zero, List.set_cons_succ])
      refine wpAnyH_read (i := 2) (d := 55) (v := ?_) rfl rfl rfl (by kernel_rfl) (by kernel_rfl) (by kernel_rfl) (fun _ _ _ h => h) hHeld ?_ ?_
      rotate_left
      · intro w hSw
        (try dsimp only at hSw)
        go_simp
        (try with_reducible rfl)
      (try simp only [List.setIfInBounds_toArray, List.set_cons_zero, List.set_cons_succ])
      refine wpAnyH_read (i := 3) (d := 56) (v := ?_) rfl rfl rfl (by kernel_rfl) (by kernel_rfl) (by kernel_rfl) (fun _ _ _ h => h) hHeld ?_ ?_
      rotate_left
      · intro w hSw
        (try dsimp only at hSw)
        go_simp
        (try with_reducible rfl)
      (try simp only [List.setIfInBounds_toArray, List.set_cons_zero, List.set_cons_succ])
      refine wpAnyH_read (i := 4) (d := 57) (v := ?_) rfl rfl rfl (by kernel_rfl) (by kernel_rfl) (by kernel_rfl) (fun _ _ _ h => h) hHeld ?_ ?_
      rotate_left
      · intro w hSw
        (try dsimp only at hSw)
        go_simp
        (try with_reducible rfl)
      (try simp only [List.setIfInBounds_toArray, List.set_cons_zero, List.set_cons_succ])
      clear hHeld
      refine wpAnyH_effects0 (B := B) (w0 := w0) (F := 2) [⟨5, 58⟩] [[]] (fun env => pureE (∀ v, env.getD 0 none = some v → v = .agg freshL.toArray) :: (X.es vf { s.tick 1 with never := s.never + 1 } ++ C)) (by kernel_rfl) (H3.out.drew.add (pureE _) (Below.refl _ _) (fun v hv => by cases hv) (by simp [pureE])) (by decide) (by simp) ?hlaw ?hS ?hfin
      case hS =>
        intro wx env _ hl
        exact (ArM.blk (X := X) (vf := vf) (s := { s.tick 1 with never := s.never + 1 }) hl.tail).cell 0
      case hlaw =>
        intro j e he
        unfold EffLaw
        intro env a wa K hlen hj hdep hcl hev hst hl hK
        rcases env with _ | ⟨e0, _ | ⟨e1, env⟩⟩
        any_goals (simp at hlen; done)
        rcases j with _ | j
        · simp at he hj
          subst he hj
          refine wpOp_callW (f := 140) (vals := #[]) (v := .agg freshL.toArray) (R := fun w' => Below wa.heap.size wa w') rfl rfl rfl (by simp [execOp, resolve, invoke, go_sem]) (ar_fresh wa) (fun w' hw' => hK _ w' ?_)
          exact Led.pure_ (es := []) (fs := _) (hl.later hw') (fun v hv => by injection hv with hv; exact hv.symm)
        · simp at he
      case hfin =>
        intro zs wz hz1 hz2 hl
        obtain ⟨u0, rfl⟩ := finE1 hz1 hz2
        obtain rfl : u0 = .agg freshL.toArray := (show ∀ v, some u0 = some v → v = .agg freshL.toArray from hl.at_ 0 rfl) u0 rfl
        have H5 := Lib.hid hl.tail
        clear hl hz1 hz2
        simp only [foldE, List.foldl_cons, List.foldl_nil, putE, Act.put, List.setIfInBounds_toArray, List.set_cons_zero, List.set_cons_succ]
        have hHeld : (fun wx : World => wx.cell? ⟨X.p, 0, none⟩ = some (.slice (some ⟨X.g, 0, none⟩) s.n X.cp)) wz := (ArM.blk H5.out).cell 0
        refine wpAnyH_read (i := 6) (d := 59) (v := ?_) rfl rfl rfl (by kernel_rfl) (by kernel_rfl) (by kernel_rfl) (fun _ _ _ h => h) hHeld ?_ ?_
        rotate_left
        · intro w hSw
          (try dsimp only at hSw)
          go_simp
          (try with_reducible rfl)
        (try simp only [List.setIfInBounds_toArray, List.set_cons_zero, List.set_cons_succ])
        refine wpAnyH_ready (rs := [7]) (by kernel_rfl) (by simp) ?_
        refine AllReadyH.cons (o := _) rfl (fun K hK => ?_) AllReadyH.nil
        rw [if_pos (by rfl)]
        have ht5 := ArM.tab H5.out
        have hth : wz.there X.g (s.never * 11) freshL.toArray.size := fun j hj => ⟨by rw [ht5.cell (j := j) (Ar.rows_get _ hcn) (List.getElem?_eq_getElem (show j < (Ar.row _ _).length from hj))]; rfl, ht5.frozen _⟩
        have H6 := Lib.hid (ArM.fresh X { s.tick 1 with never := s.never + 1 } hcn H5.out)
        refine wp_store_mid 173 (.tmp 59) (.tmp 58) rfl X.g (s.never * 11) freshL.toArray (by rfl) (by rfl) hth (by kernel_rfl) (by simp [freshL, Value.oneCell']) ?_
        refine hK.out _ _ ((ArM.blk H6.out).cell 0) (fun _ => ?_)
        refine wpAnyH_done (by kernel_rfl) ?_ _
        clear hHeld ht5 hth H5
        generalize wz.setCells X.g (s.never * 11) freshL.toArray.toList = w7 at *
        go_wp2_with fail
        refine hR.out _ _ ⟨vf, ?_, ?_⟩
        · rw [Ar.take_new h0 hnn] <;> rfl
        · rw [Ar.take_new h0 hnn]; exact H6.out
    · have g2 : decide ((s.n : Int) ≤ (s.never : Int)) = true := by simp; omega
      clear hA hfr
      go_wp2_with fail
      refine hR.out _ _ ⟨vf, ?_, ?_⟩
      · rw [Ar.take_none h0 (by omega)] <;> rfl
      · rw [Ar.take_none h0 (by omega)]; exact H1.out
  · have hlen : (s.tick 1).frees.length = fs.length + 1 := by simp [Ar.frees, Ar.tick, hfc]
    rw [hlen] at hvf hcf hA
    obtain ⟨gf, rfl, hgf, _⟩ := hA (by omega)
    have hin := HOK.out.fr c (by rw [hfc]; simp)
    obtain ⟨c, rfl⟩ := Int.eq_ofNat_of_zero_le hin.1
    have hcn : c < s.n := by omega
    have f1 : w1.cell? ⟨gf, fs.length, none⟩ = some (.int .i64 (c : Int)) := by
      have hfr2 := hfr
      rw [hvf] at hfr2
      have := hfr2.cell (i := fs.length) (j := 0) (r := [Value.int .i64 (c : Int)]) (by simp [Ar.frees, Ar.tick, hfc]) rfl
      simpa using this
    have hlf : fs.length < 100000 := by
      have h3 := HOK.out.cnt
      rw [hfc] at h3
      simp at h3
      omega
    rw [hvf] at q2
    have hE : (s.tick 1).frees = (fs.map fun x => [Value.int .i64 x]) ++ [[Value.int .i64 (c : Int)]] := by simp [Ar.frees, Ar.tick, hfc]
    have hw1 : IntKind.i64.wrap (((fs.length + 1 : Nat) : Int) - 1) = (fs.length : Int) := by rw [IntKind.wrap_i64]; omega
    have g1 : decide (0 ≤ (fs.length : Int)) = true := by simp
    have hpop : TabIs w1 0 3 1 (.slice (some ⟨gf, 0, none⟩) fs.length cf) ({ s.tick 1 with free := fs } : Ar).frees := by
      have h3 := hfr
      rw [hvf, hE, show fs.length + 1 = (fs.map fun x => [Value.int .i64 x]).length + 1 by simp] at h3
      have h4 := h3.pop
      rw [List.length_map] at h4
      exact h4
    have h5 := H1.out.step 2 rfl (tabE 3 1 (.slice (some ⟨gf, 0, none⟩) fs.length cf) ({ s.tick 1 with free := fs } : Ar).frees) (Chg.refl _ _) hpop (by rw [hvf]; simp [tabE, Value.ownBlock]; exact Fresh.refl _ _)
    have H2 := Lib.hid (led_cell (A := []) 2 (.slice (some ⟨gf, 0, none⟩) fs.length cf) h5)
    have h6 : Led B w0 (w1.setCell ⟨X.p, 2, none⟩ (.slice (some ⟨gf, 0, none⟩) fs.length cf)) (X.es (.slice (some ⟨gf, 0, none⟩) fs.length cf) { s.tick 1 with free := fs } ++ C) := H2.out
    have H3 := Lib.hid h6
    have ltp := (ArM.blk H1.out).lt
    clear hA hfr h5 h6 H2 hpop hE
    go_upto_region 10 with fail
    generalize w1.setCell ⟨X.p, 2, none⟩ (.slice (some ⟨gf, 0, none⟩) fs.length cf) = w2 at H3 ⊢
    clear q0 q1 q2 q3 fq0 fq1 fq2 fq3 f1 hvf H1
    have HS : Hid (∀ W, Below w2.heap.size w2 W → W.cell? ⟨X.p, 0, none⟩ = some (.slice (some ⟨X.g, 0, none⟩) s.n X.cp)) := Lib.hid fun W hW => (ArM.blk (H3.out.later hW)).cell 0
    refine wp_region_held_drew (S := fun wx => wx.cell? ⟨X.p, 0, none⟩ = some (.slice (some ⟨X.g, 0, none⟩) s.n X.cp)) (by kernel_rfl) ?_ (fun hHeld => ?_)
    · exact HS.out _ (bel_drew (bel_refl _))
    refine wpAnyH_read (i := 0) (d := 53) (v := ?_) rfl rfl rfl (by kernel_rfl) (by kernel_rfl) (by kernel_rfl) (fun _ _ _ h => h) hHeld ?_ ?_
    rotate_left
    · intro w hSw
      (try dsimp only at hSw)
      go_simp
      (try with_reducible rfl)
    (try simp only [List.setIfInBounds_toArray, List.set_cons_zero, List.set_cons_succ])
    refine wpAnyH_read (i := 1) (d := 54) (v := ?_) rfl rfl rfl (by kernel_rfl) (by kernel_rfl) (by kernel_rfl) (fun _ _ _ h => h) hHeld ?_ ?_
    rotate_left
    · intro w hSw
      (try dsimp only at hSw)
      go_simp
      (try with_reducible rfl)
    (try simp only [List.setIfInBounds_toArray, List.set_cons_zero, List.set_cons_succ])
    refine wpAnyH_read (i := 2) (d := 55) (v := ?_) rfl rfl rfl (by kernel_rfl) (by kernel_rfl) (by kernel_rfl) (fun _ _ _ h => h) hHeld ?_ ?_
    rotate_left
    · intro w hSw
      (try dsimp only at hSw)
      go_simp
      (try with_reducible rfl)
    (try simp only [List.setIfInBounds_toArray, List.set_cons_zero, List.set_cons_succ])
    refine wpAnyH_read (i := 3) (d := 56) (v := ?_) rfl rfl rfl (by kernel_rfl) (by kernel_rfl) (by kernel_rfl) (fun _ _ _ h => h) hHeld ?_ ?_
    rotate_left
    · intro w hSw
      (try dsimp only at hSw)
      go_simp
      (try with_reducible rfl)
    (try simp only [List.setIfInBounds_toArray, List.set_cons_zero, List.set_cons_succ])
    refine wpAnyH_read (i := 4) (d := 57) (v := ?_) rfl rfl rfl (by kernel_rfl) (by kernel_rfl) (by kernel_rfl) (fun _ _ _ h => h) hHeld ?_ ?_
    rotate_left
    · intro w hSw
      (try dsimp only at hSw)
      go_simp
      (try with_reducible rfl)
    (try simp only [List.setIfInBounds_toArray, List.set_cons_zero, List.set_cons_succ])
    clear hHeld
    refine wpAnyH_effects0 (B := B) (w0 := w0) (F := 2) [⟨5, 58⟩] [[]] (fun env => pureE (∀ v, env.getD 0 none = some v → v = .agg freshL.toArray) :: (X.es (.slice (some ⟨gf, 0, none⟩) fs.length cf) { s.tick 1 with free := fs } ++ C)) (by kernel_rfl) (H3.out.drew.add (pureE _) (Below.refl _ _) (fun v hv => by cases hv) (by simp [pureE])) (by decide) (by simp) ?hlaw ?hS ?hfin
    case hS =>
      intro wx env _ hl
      exact (ArM.blk (X := X) (vf := (.slice (some ⟨gf, 0, none⟩) fs.length cf)) (s := { s.tick 1 with free := fs }) hl.tail).cell 0
    case hlaw =>
      intro j e he
      unfold EffLaw
      intro env a wa K hlen hj hdep hcl hev hst hl hK
      rcases env with _ | ⟨e0, _ | ⟨e1, env⟩⟩
      any_goals (simp at hlen; done)
      rcases j with _ | j
      · simp at he hj
        subst he hj
        refine wpOp_callW (f := 140) (vals := #[]) (v := .agg freshL.toArray) (R := fun w' => Below wa.heap.size wa w') rfl rfl rfl (by simp [execOp, resolve, invoke, go_sem]) (ar_fresh wa) (fun w' hw' => hK _ w' ?_)
        exact Led.pure_ (es := []) (fs := _) (hl.later hw') (fun v hv => by injection hv with hv; exact hv.symm)
      · simp at he
    case hfin =>
      intro zs wz hz1 hz2 hl
      obtain ⟨u0, rfl⟩ := finE1 hz1 hz2
      obtain rfl : u0 = .agg freshL.toArray := (show ∀ v, some u0 = some v → v = .agg freshL.toArray from hl.at_ 0 rfl) u0 rfl
      have H5 := Lib.hid hl.tail
      clear hl hz1 hz2
      simp only [foldE, List.foldl_cons, List.foldl_nil, putE, Act.put, List.setIfInBounds_toArray, List.set_cons_zero, List.set_cons_succ]
      have hHeld : (fun wx : World => wx.cell? ⟨X.p, 0, none⟩ = some (.slice (some ⟨X.g, 0, none⟩) s.n X.cp)) wz := (ArM.blk H5.out).cell 0
      refine wpAnyH_read (i := 6) (d := 59) (v := ?_) rfl rfl rfl (by kernel_rfl) (by kernel_rfl) (by kernel_rfl) (fun _ _ _ h => h) hHeld ?_ ?_
      rotate_left
      · intro w hSw
        (try dsimp only at hSw)
        go_simp
        (try with_reducible rfl)
      (try simp only [List.setIfInBounds_toArray, List.set_cons_zero, List.set_cons_succ])
      refine wpAnyH_ready (rs := [7]) (by kernel_rfl) (by simp) ?_
      refine AllReadyH.cons (o := _) rfl (fun K hK => ?_) AllReadyH.nil
      rw [if_pos (by rfl)]
      have ht5 := ArM.tab H5.out
      have hth : wz.there X.g (c * 11) freshL.toArray.size := fun j hj => ⟨by rw [ht5.cell (j := j) (Ar.rows_get _ hcn) (List.getElem?_eq_getElem (show j < (Ar.row _ _).length from hj))]; rfl, ht5.frozen _⟩
      have H6 := Lib.hid (ArM.fresh X { s.tick 1 with free := fs } hcn H5.out)
      refine wp_store_mid 173 (.tmp 59) (.tmp 58) rfl X.g (c * 11) freshL.toArray (by rfl) (by rfl) hth (by kernel_rfl) (by simp [freshL, Value.oneCell']) ?_
      refine hK.out _ _ ((ArM.blk H6.out).cell 0) (fun _ => ?_)
      refine wpAnyH_done (by kernel_rfl) ?_ _
      clear hHeld ht5 hth H5
      generalize wz.setCells X.g (c * 11) freshL.toArray.toList = w7 at *
      go_wp2_with fail
      refine hR.out _ _ ⟨(.slice (some ⟨gf, 0, none⟩) fs.length cf), ?_, ?_⟩
      · rw [Ar.take_free hfc] <;> rfl
      · rw [Ar.take_free hfc]; exact H6.out
end
end Go.Proofs.YtognmhgdegpdiaaGreat
end
section
/- Entries and how they stand to one another. -/
namespace Go.Proofs.YtognmhgdegpdiaaGreat
open Go.RowKit
set_option linter.unusedVariables false
set_option linter.unusedSimpArgs false
set_option maxRecDepth 100000
def cmpI (a b : Int) : Int := if a < b then -1 else if b < a then 1 else 0
def orI (x y : Int) : Int := if x = 0 then y else x
def cmpE (k1 s1 k2 s2 : Int) : Int := orI (cmpI k1 k2) (cmpI s1 s2)
theorem nan_int (x : Int) (w : World) : Calls Tryz.prog 176 #[.int .i64 x] w fun e w' => e = .returned (.bool false) ∧ w = w' := by
  refine callsR fun R hR => ?_
  go_enter Tryz.func176, Tryz.ntmps176
  go_wp2_with fail
  exact hR.out _ _ ⟨by simp, rfl⟩
theorem cmp_int (a b : Int) (w : World) : Calls Tryz.prog 137 #[.int .i64 a, .int .i64 b] w fun e w' => e = .returned (.int .i64 (cmpI a b)) ∧ w = w' := by
  by_cases h1 : a < b
  · have g1 : decide (a < b) = true := by simpa using h1
    refine callsR fun R hR => ?_
    go_enter Tryz.func137, Tryz.ntmps137
    go_wp2_with (first | (go_at_call 176; refine (nan_int _ _).mono ?_; rintro e w' ⟨rfl, rfl⟩))
    exact hR.out _ _ ⟨by rw [cmpI, if_pos h1] <;> rfl, rfl⟩
  · have g1 : decide (a < b) = false := by simpa using h1
    by_cases h2 : b < a
    · have g2 : decide (b < a) = true := by simpa using h2
      have hc : cmpI a b = 1 := by rw [cmpI, if_neg h1, if_pos h2]
      refine callsR fun R hR => ?_
      go_enter Tryz.func137, Tryz.ntmps137
      go_wp2_with (first | (go_at_call 176; refine (nan_int _ _).mono ?_; rintro e w' ⟨rfl, rfl⟩))
      exact hR.out _ _ ⟨by rw [hc] <;> rfl, rfl⟩
    · have g2 : decide (b < a) = false := by simpa using h2
      have hc : cmpI a b = 0 := by rw [cmpI, if_neg h1, if_neg h2]
      refine callsR fun R hR => ?_
      go_enter Tryz.func137, Tryz.ntmps137
      go_wp2_with (first | (go_at_call 176; refine (nan_int _ _).mono ?_; rintro e w' ⟨rfl, rfl⟩))
      exact hR.out _ _ ⟨by rw [hc] <;> rfl, rfl⟩
theorem or_int (x y : Int) (g : Nat) (w : World) (h0 : w.cell? ⟨g, 0, none⟩ = some (.int .i64 x)) (h1 : w.cell? ⟨g, 1, none⟩ = some (.int .i64 y)) : Calls Tryz.prog 136 #[.slice (some ⟨g, 0, none⟩) 2 2] w fun e w' => e = .returned (.int .i64 (orI x y)) ∧ w = w' := by
  have hor : orI x y = if x = 0 then y else x := rfl
  by_cases hx : x = 0
  · subst hx
    by_cases hy : y = 0
    · subst hy
      refine callsR fun R hR => ?_
      go_enter Tryz.func136, Tryz.ntmps136
      go_wp2_with fail
      refine wp_loop_rounds 3 ?_
      repeat any_goals (rw [rounds_succ]; go_wp2_with fail)
      exact hR.out _ _ ⟨rfl, rfl⟩
    · have g1 : (y != 0) = true := by simpa using hy
      refine callsR fun R hR => ?_
      go_enter Tryz.func136, Tryz.ntmps136
      go_wp2_with fail
      refine wp_loop_rounds 3 ?_
      repeat any_goals (rw [rounds_succ]; go_wp2_with fail)
      exact hR.out _ _ ⟨rfl, rfl⟩
  · have g1 : (x != 0) = true := by simpa using hx
    refine callsR fun R hR => ?_
    go_enter Tryz.func136, Tryz.ntmps136
    go_wp2_with fail
    refine wp_loop_rounds 3 ?_
    repeat any_goals (rw [rounds_succ]; go_wp2_with fail)
    exact hR.out _ _ ⟨by rw [hor, if_neg hx] <;> rfl, rfl⟩
theorem order_compare (k1 s1 k2 s2 : Int) (w : World) : Calls Tryz.prog 82 #[.agg #[.int .i64 k1, .int .i64 s1], .agg #[.int .i64 k2, .int .i64 s2]] w fun e w' => e = .returned (.int .i64 (cmpE k1 s1 k2 s2)) ∧ Below w.heap.size w w' := by
  refine callsR fun R hR => ?_
  go_enter Tryz.func82, Tryz.ntmps82
  go_upto_region 1 with fail
  have b0 : Blk ((w.alloc (.cells #[.int .i64 k1, .int .i64 s1] 36)).alloc (.cells #[.int .i64 k2, .int .i64 s2] 36)) w.heap.size 36 #[.int .i64 k1, .int .i64 s1] := (Blk.new w _ _).alloc _
  have b1 : Blk ((w.alloc (.cells #[.int .i64 k1, .int .i64 s1] 36)).alloc (.cells #[.int .i64 k2, .int .i64 s2] 36)) (w.heap.size + 1) 36 #[.int .i64 k2, .int .i64 s2] := Blk.new1 _ _ _ _
  have bel : Below w.heap.size w ((w.alloc (.cells #[.int .i64 k1, .int .i64 s1] 36)).alloc (.cells #[.int .i64 k2, .int .i64 s2] 36)) := ((Below.refl _ _).alloc (Nat.le_refl _) _).alloc (by simp) _
  generalize ((w.alloc (.cells #[.int .i64 k1, .int .i64 s1] 36)).alloc (.cells #[.int .i64 k2, .int .i64 s2] 36)) = w1 at *
  obtain ⟨c0, c1, fc0, fc1⟩ := b0.c2
  obtain ⟨d0, d1, fd0, fd1⟩ := b1.c2
  have BEL := Lib.hid bel
  clear b0 b1 bel
  go_region_held3 (fun wx => wx.cell? ⟨w.heap.size, 0, none⟩ = some (.int .i64 k1) ∧ wx.cell? ⟨w.heap.size, 1, none⟩ = some (.int .i64 s1) ∧ wx.cell? ⟨w.heap.size + 1, 0, none⟩ = some (.int .i64 k2) ∧ wx.cell? ⟨w.heap.size + 1, 1, none⟩ = some (.int .i64 s2)) (first | exact ⟨c0, c1, d0, d1⟩ | go_keep) (first | (go_at_call 137; refine (cmp_int _ _ _).mono ?_; rintro e w' ⟨rfl, rfl⟩) | (go_at_call 136; refine (or_int (cmpI k1 k2) (cmpI s1 s2) w1.heap.size _ ((Blk.new w1 _ _).cell 0) ((Blk.new w1 _ _).cell 1)).mono ?_; rintro e w' ⟨rfl, rfl⟩))
  go_wp2_with fail
  have hr : orI (cmpI k1 k2) (cmpI s1 s2) = cmpE k1 s1 k2 s2 := rfl
  exact hR.out _ _ ⟨by rw [← hr] <;> rfl, (BEL.out.alloc (Nat.le_trans BEL.out.size (Nat.le_refl _)) _).drew⟩
end Go.Proofs.YtognmhgdegpdiaaGreat
end
section
/- Items and nodes: what each call does. -/
namespace Go.Proofs.YtognmhgdegpdiaaGreat
open Go.RowKit
set_option linter.unusedVariables false
set_option linter.unusedSimpArgs false
set_option maxRecDepth 100000
section
variable {B : Nat} {w0 w : World} {C : List Ent} {vf : Value}
theorem t_get (X : ArM) (s : Ar) (t : Nat) (c k : Int) (hk : 0 ≤ k ∧ k < 10) (h : Led B w0 w (X.es vf (s.tick t) ++ C)) :
    Calls Tryz.prog 110 #[.pointer (some ⟨X.p, 0, none⟩), .int .i64 c, .int .i64 k] w fun e w' => e = .returned (.int .i64 (s.get c k)) ∧ Led B w0 w' (X.es vf (s.tick (t + 1)) ++ C) := ar_get X (s.tick t) c k hk h
theorem t_cell (X : ArM) (s : Ar) (t : Nat) (c k : Int) (hk : 0 ≤ k ∧ k < 10) (h : Led B w0 w (X.es vf (s.tick t) ++ C)) :
    Calls Tryz.prog 151 #[.pointer (some ⟨X.p, 0, none⟩), .int .i64 c, .int .i64 k] w fun e w' => e = .returned (.int .i64 (s.cell c k)) ∧ Led B w0 w' (X.es vf (s.tick (t + 1)) ++ C) := ar_cell X (s.tick t) c k hk h
theorem put_tick (s : Ar) (t : Nat) (c k v : Int) : (s.tick t).put c k v = (s.put c k v).tick t := by unfold Ar.put; rw [show (s.tick t).has c = s.has c from rfl]; split <;> rfl
theorem t_set (X : ArM) (s : Ar) (t : Nat) (c k v : Int) (hk : 0 ≤ k ∧ k < 10) (h : Led B w0 w (X.es vf (s.tick t) ++ C)) :
    Calls Tryz.prog 89 #[.pointer (some ⟨X.p, 0, none⟩), .int .i64 c, .int .i64 k, .int .i64 v] w fun e w' => e = .returned (.bool (s.has c)) ∧ Led B w0 w' (X.es vf ((s.put c k v).tick (t + 1)) ++ C) := by
  have := ar_set X (s.tick t) c k v hk h
  rw [put_tick] at this
  exact this
theorem t_live (X : ArM) (s : Ar) (t : Nat) (c : Int) (h : Led B w0 w (X.es vf (s.tick t) ++ C)) :
    Calls Tryz.prog 153 #[.pointer (some ⟨X.p, 0, none⟩), .int .i64 c] w fun e w' => e = .returned (.bool (s.has c)) ∧ w = w' := ar_live X (s.tick t) c h
theorem t_cells (X : ArM) (s : Ar) (t : Nat) (h : Led B w0 w (X.es vf (s.tick t) ++ C)) :
    Calls Tryz.prog 179 #[.pointer (some ⟨X.p, 0, none⟩)] w fun e w' => e = .returned (.int .i64 (s.n : Int)) ∧ w = w' := ar_cells X (s.tick t) h
theorem t_give (X : ArM) (s : Ar) (t : Nat) (c : Int) (hok : s.Ok) (h : Led B w0 w (X.es vf (s.tick t) ++ C)) :
    Calls Tryz.prog 109 #[.pointer (some ⟨X.p, 0, none⟩), .int .i64 c] w fun e w' => ∃ vf', e = .returned (.bool (s.has c)) ∧ Led B w0 w' (X.es vf' ((s.give c).2.tick (t + 1)) ++ C) := by
  have := ar_give X (s.tick t) c (by have := hok.cnt; have := hok.nv; have := hok.nm; show s.free.length ≤ 100000; omega) h
  rw [show ((s.tick t).give c).2 = (s.give c).2.tick t by unfold Ar.give; rw [show (s.tick t).has c = s.has c from rfl]; split <;> rfl] at this
  exact this
theorem t_take (X : ArM) (s : Ar) (t : Nat) (hok : s.Ok) (h : Led B w0 w (X.es vf (s.tick t) ++ C)) :
    Calls Tryz.prog 88 #[.pointer (some ⟨X.p, 0, none⟩)] w fun e w' => ∃ vf', e = .returned (.tuple #[.int .i64 s.take.1, .bool s.take.2.1]) ∧ Led B w0 w' (X.es vf' (s.take.2.2.tick (t + 1)) ++ C) := by
  have := ar_take X (s.tick t) (hok.tick t) h
  have e : (s.tick t).take = (s.take.1, s.take.2.1, s.take.2.2.tick t) := by
    rcases nil_or_snoc s.free with h0 | ⟨fs, c, hfc⟩
    · by_cases h2 : s.never < s.n
      · rw [Ar.take_new h0 h2, Ar.take_new (s := s.tick t) h0 h2]; rfl
      · rw [Ar.take_none h0 (by omega), Ar.take_none (s := s.tick t) h0 (by show s.n ≤ s.never; omega)]
    · rw [Ar.take_free hfc, Ar.take_free (s := s.tick t) hfc]; rfl
  rw [e] at this
  exact this
end
section
variable {B : Nat} {w0 w : World} {C : List Ent} {vf : Value} (X : ArM) (s : Ar) (t : Nat)
theorem item_entry (i : Int) (h : Led B w0 w (X.es vf (s.tick t) ++ C)) :
    Calls Tryz.prog 221 #[.pointer (some ⟨X.p, 0, none⟩), .int .i64 i] w fun e w' => e = .returned (.agg #[.int .i64 (s.get i 7), .int .i64 (s.get i 8)]) ∧ Led B w0 w' (X.es vf (s.tick (t + 2)) ++ C) := by
  have H := Lib.hid h
  clear h
  refine callsR fun R hR => ?_
  go_enter Tryz.func221, Tryz.ntmps221
  go_upto_region 1 with fail
  have h2 : Led B w0 (w.alloc (.cells #[.int .i64 0, .int .i64 0] 36)) (X.es vf (s.tick t) ++ blkE w.heap.size 36 #[.int .i64 0, .int .i64 0] :: C) := H.out.insert (blkE w.heap.size 36 #[.int .i64 0, .int .i64 0]) ((Below.refl _ _).alloc (Nat.le_refl _) _) (Blk.new _ _ _) (fun b hb => by simp [blkE] at hb; omega)
  replace H := Lib.hid h2
  clear h2
  generalize w.alloc (.cells #[.int .i64 0, .int .i64 0] 36) = w1 at *
  go_wp2_with (first | (go_at_call 110; refine Calls.mono (t_get X _ _ _ _ (by decide) H.out) ?_; rintro e w' ⟨rfl, h'⟩; replace H := Lib.hid h'; have bb : Blk w' w.heap.size 36 #[.int .i64 0, .int .i64 0] := h'.at_ 4 rfl; have c0 := bb.cell 0; have c1 := bb.cell 1; have fc0 := bb.frozen 0; have fc1 := bb.frozen 1; have lc := bb.lt; simp only [List.getElem?_toArray, List.getElem?_cons_zero, List.getElem?_cons_succ] at c0 c1; clear h' bb))
  have h3 := led_cell (A := X.es vf (s.tick (t + 2))) 1 (.int .i64 (s.get i 8)) (led_cell (A := X.es vf (s.tick (t + 2))) 0 (.int .i64 (s.get i 7)) H.out)
  have bb : Blk _ w.heap.size 36 #[.int .i64 (s.get i 7), .int .i64 (s.get i 8)] := h3.at_ 4 rfl
  have h4 := h3.sub (fs := X.es vf (s.tick (t + 2)) ++ C) (List.Sublist.append (List.Sublist.refl _) (List.sublist_cons_self _ _))
  clear c0 c1 fc0 fc1 lc h3 H
  obtain ⟨c0, c1, fc0, fc1⟩ := bb.c2
  exact bodyPost_ret (v := .agg #[.int .i64 (s.get i 7), .int .i64 (s.get i 8)]) (by simp [results, Tryz.results221, go_sem, c0, c1]) rfl (hR.out _ _ ⟨rfl, h4⟩)
end
end Go.Proofs.YtognmhgdegpdiaaGreat
end
section
/- Items and nodes: what each call does. -/
namespace Go.Proofs.YtognmhgdegpdiaaGreat
open Go.RowKit
set_option linter.unusedVariables false
set_option linter.unusedSimpArgs false
set_option maxRecDepth 100000
def Ar.icmp (s : Ar) (i j : Int) : Int := cmpE (s.get i 7) (s.get i 8) (s.get j 7) (s.get j 8)
def Ar.ibefore (s : Ar) (i j : Int) : Bool := decide (s.icmp i j < 0) || (decide (s.icmp i j = 0) && decide (i < j))
def Ar.nbefore (s : Ar) (n m : Int) : Bool := s.ibefore (s.cell n 6) (s.cell m 6)
def Ar.putItem (s : Ar) (n i : Int) : Ar := (s.put n 6 i).put i 9 n
def Ar.swapItem (s : Ar) (n m : Int) : Ar := (s.putItem n (s.cell m 6)).putItem m (s.cell n 6)
section
variable {B : Nat} {w0 w : World} {C : List Ent} {vf : Value} (X : ArM) (s : Ar) (t : Nat)
theorem item_before (i j : Int) (h : Led B w0 w (X.es vf (s.tick t) ++ C)) :
    Calls Tryz.prog 199 #[.pointer (some ⟨X.p, 0, none⟩), .int .i64 i, .int .i64 j] w fun e w' => e = .returned (.bool (s.ibefore i j)) ∧ Led B w0 w' (X.es vf (s.tick (t + 4)) ++ C) := by
  have H := Lib.hid h
  clear h
  obtain ⟨n, hn⟩ : ∃ n, cmpE (s.get i 7) (s.get i 8) (s.get j 7) (s.get j 8) = n := ⟨_, rfl⟩
  have hb : s.ibefore i j = (decide (n < 0) || (decide (n = 0) && decide (i < j))) := by rw [← hn]; rfl
  by_cases h1 : n < 0
  · have g1 : decide (n < 0) = true := by simpa using h1
    rw [g1] at hb
    refine callsR fun R hR => ?_
    go_enter Tryz.func199, Tryz.ntmps199
    go_wp2_with (first | (go_at_call 221; refine Calls.mono (item_entry _ _ _ _ H.out) ?_; rintro e w' ⟨rfl, h'⟩; replace H := Lib.hid h'; clear h'))
    refine Calls.mono (order_compare _ _ _ _ _) ?_
    rintro e w' ⟨rfl, h'⟩
    replace H := Lib.hid (H.out.later h')
    clear h'
    rw [hn]
    go_wp2_with fail
    exact hR.out _ _ ⟨by rw [hb] <;> rfl, H.out⟩
  · have g1 : decide (n < 0) = false := by simpa using h1
    by_cases h2 : n = 0
    · have g2 : (n == 0) = true := by simpa using h2
      have g2' : decide (n = 0) = true := by simpa using h2
      cases g3 : decide (i < j)
      all_goals
        rw [g1, g2', g3] at hb
        clear g2'
        refine callsR fun R hR => ?_
        go_enter Tryz.func199, Tryz.ntmps199
        go_wp2_with (first | (go_at_call 221; refine Calls.mono (item_entry _ _ _ _ H.out) ?_; rintro e w' ⟨rfl, h'⟩; replace H := Lib.hid h'; clear h'))
        refine Calls.mono (order_compare _ _ _ _ _) ?_
        rintro e w' ⟨rfl, h'⟩
        replace H := Lib.hid (H.out.later h')
        clear h'
        rw [hn]
        go_wp2_with fail
        exact hR.out _ _ ⟨by rw [hb] <;> rfl, H.out⟩
    · have g2 : (n == 0) = false := by simpa using h2
      have g2' : decide (n = 0) = false := by simpa using h2
      rw [g1, g2'] at hb
      clear g2'
      refine callsR fun R hR => ?_
      go_enter Tryz.func199, Tryz.ntmps199
      go_wp2_with (first | (go_at_call 221; refine Calls.mono (item_entry _ _ _ _ H.out) ?_; rintro e w' ⟨rfl, h'⟩; replace H := Lib.hid h'; clear h'))
      refine Calls.mono (order_compare _ _ _ _ _) ?_
      rintro e w' ⟨rfl, h'⟩
      replace H := Lib.hid (H.out.later h')
      clear h'
      rw [hn]
      go_wp2_with fail
      exact hR.out _ _ ⟨by rw [hb] <;> rfl, H.out⟩
theorem item_put (n i : Int) (h : Led B w0 w (X.es vf (s.tick t) ++ C)) :
    Calls Tryz.prog 178 #[.pointer (some ⟨X.p, 0, none⟩), .int .i64 n, .int .i64 i] w fun e w' => e = .returned (.tuple #[]) ∧ Led B w0 w' (X.es vf ((s.putItem n i).tick (t + 2)) ++ C) := by
  have H := Lib.hid h
  clear h
  refine callsR fun R hR => ?_
  go_enter Tryz.func178, Tryz.ntmps178
  go_wp2_with (first | (go_at_call 89; refine Calls.mono (t_set _ _ _ _ _ _ (by decide) H.out) ?_; rintro e w' ⟨rfl, h'⟩; replace H := Lib.hid h'; clear h'))
  refine bodyPost_end (results_none rfl _ _ _) rfl (hR.out _ _ ⟨rfl, H.out⟩)
theorem item_swap (n m : Int) (h : Led B w0 w (X.es vf (s.tick t) ++ C)) :
    Calls Tryz.prog 187 #[.pointer (some ⟨X.p, 0, none⟩), .int .i64 n, .int .i64 m] w fun e w' => e = .returned (.tuple #[]) ∧ Led B w0 w' (X.es vf ((s.swapItem n m).tick (t + 6)) ++ C) := by
  have H := Lib.hid h
  clear h
  refine callsR fun R hR => ?_
  go_enter Tryz.func187, Tryz.ntmps187
  go_wp2_with (first | (go_at_call 151; refine Calls.mono (t_cell _ _ _ _ _ (by decide) H.out) ?_; rintro e w' ⟨rfl, h'⟩; replace H := Lib.hid h'; clear h') | (go_at_call 178; refine Calls.mono (item_put _ _ _ _ _ H.out) ?_; rintro e w' ⟨rfl, h'⟩; replace H := Lib.hid h'; clear h'))
  refine bodyPost_end (results_none rfl _ _ _) rfl (hR.out _ _ ⟨rfl, H.out⟩)
theorem node_before (n m : Int) (h : Led B w0 w (X.es vf (s.tick t) ++ C)) :
    Calls Tryz.prog 164 #[.pointer (some ⟨X.p, 0, none⟩), .int .i64 n, .int .i64 m] w fun e w' => e = .returned (.bool (s.nbefore n m)) ∧ Led B w0 w' (X.es vf (s.tick (t + 6)) ++ C) := by
  have H := Lib.hid h
  clear h
  refine callsR fun R hR => ?_
  go_enter Tryz.func164, Tryz.ntmps164
  go_wp2_with (first | (go_at_call 151; refine Calls.mono (t_cell _ _ _ _ _ (by decide) H.out) ?_; rintro e w' ⟨rfl, h'⟩; replace H := Lib.hid h'; clear h') | (go_at_call 199; refine Calls.mono (item_before _ _ _ _ _ H.out) ?_; rintro e w' ⟨rfl, h'⟩; replace H := Lib.hid h'; clear h'))
  exact hR.out _ _ ⟨rfl, H.out⟩
end
end Go.Proofs.YtognmhgdegpdiaaGreat
end
section
/- Items and nodes that are made, that end; rows. -/
namespace Go.Proofs.YtognmhgdegpdiaaGreat
open Go.RowKit
set_option linter.unusedVariables false
set_option linter.unusedSimpArgs false
set_option maxRecDepth 100000
def iR (L : List Int) : List (List Value) := L.map fun x => [Value.int .i64 x]
def iT (v : Value) (L : List Int) : Ent := tabE 3 1 v (iR L)
theorem iR_len (L : List Int) : (iR L).length = L.length := by simp [iR]
theorem iR_snoc (L : List Int) (x : Int) : iR L ++ [(#[Value.int .i64 x] : Array Value).toList] = iR (L ++ [x]) := by simp [iR]
def lenV : Value → Nat
  | .slice _ n _ => n
  | _ => 0
theorem iT_new {B : Nat} {w0 w : World} {A C : List Ent} (h : Led B w0 w (A ++ C)) : Led B w0 w (A ++ iT (.slice none 0 0) [] :: C) :=
  h.insert (iT (.slice none 0 0) []) (Below.refl _ _) (TabIs.nil _ _ _ _) (fun b hb => by simp [iT, tabE, Value.ownBlock] at hb)
theorem iT_push {B : Nat} {w0 w w' : World} {A C : List Ent} {v v' : Value} {L : List Int} {x : Int} (h : Led B w0 w (A ++ iT v L :: C)) (h1 : TabIs w' 0 3 1 v' (iR L ++ [(#[Value.int .i64 x] : Array Value).toList])) (h2 : Chg v.ownBlock.toList w w') (h3 : Fresh v.ownBlock.toList v'.ownBlock.toList w) : Led B w0 w' (A ++ iT v' (L ++ [x]) :: C) :=
  h.mid (iT v' (L ++ [x])) h2 (by rw [iR_snoc] at h1; exact h1) h3
theorem iT_tab {B : Nat} {w0 w : World} {A C : List Ent} {v : Value} {L : List Int} (h : Led B w0 w (A ++ iT v L :: C)) : TabIs w 0 3 1 v (iR L) := h.mem
theorem iT_form {w : World} {v : Value} {L : List Int} (h : TabIs w 0 3 1 v (iR L)) : ∃ A c, v = .slice A L.length c ∧ (0 < L.length → ∃ g, A = some ⟨g, 0, none⟩) := by
  obtain ⟨A, c, h1, _, h3⟩ := h.form
  rw [iR_len] at h1 h3
  exact ⟨A, c, h1, fun hp => let ⟨g, hg, _⟩ := h3 hp; ⟨g, hg⟩⟩
theorem iT_get {w : World} {g n c : Nat} {L : List Int} {i : Nat} {x : Int} (h : TabIs w 0 3 1 (.slice (some ⟨g, 0, none⟩) n c) (iR L)) (hi : L[i]? = some x) : w.cell? ⟨g, i, none⟩ = some (.int .i64 x) := by
  have := h.cell (i := i) (j := 0) (r := [Value.int .i64 x]) (by rw [iR, List.getElem?_map, hi]; rfl) rfl
  simpa using this
theorem iT_drop {B : Nat} {w0 w : World} {A C : List Ent} {e : Ent} (h : Led B w0 w (A ++ e :: C)) : Led B w0 w (A ++ C) := h.sub (List.Sublist.append (List.Sublist.refl _) (List.sublist_cons_self _ _))
def Ar.newItem (s : Ar) (key serial : Int) : Ar := (s.take.2.2.put s.take.1 7 key).put s.take.1 8 serial
def Ar.newNode (s : Ar) (i : Int) : Ar := s.take.2.2.putItem s.take.1 i
def Ar.endNode (s : Ar) (n : Int) : Ar := ((s.put (s.cell n 6) 9 (-1)).give n).2
def Ar.rowL (s : Ar) (k : Int) : Nat → Int → List Int
  | 0, _ => []
  | f + 1, n => if s.has n then n :: s.rowL k f (s.cell n k) else []
theorem Ar.rowL_le (s : Ar) (k : Int) : ∀ (f : Nat) (n : Int), (s.rowL k f n).length ≤ f
  | 0, _ => by simp [Ar.rowL]
  | f + 1, n => by
    unfold Ar.rowL
    split
    · have := Ar.rowL_le s k f (s.cell n k); simp; omega
    · simp
section
variable {B : Nat} {w0 w : World} {C : List Ent} {vf : Value} (X : ArM) (s : Ar) (t : Nat)
theorem item_new (key ser : Int) (hok : s.Ok) (hr : s.take.2.1 = true) (h : Led B w0 w (X.es vf (s.tick t) ++ C)) :
    Calls Tryz.prog 58 #[.pointer (some ⟨X.p, 0, none⟩), .int .i64 key, .int .i64 ser] w fun e w' => ∃ vf2, e = .returned (.tuple #[.int .i64 s.take.1, .bool true]) ∧ Led B w0 w' (X.es vf2 ((s.newItem key ser).tick (t + 3)) ++ C) := by
  have H := Lib.hid h
  clear h
  have HOK := Lib.hid hok
  clear hok
  refine callsR fun R hR => ?_
  go_enter Tryz.func58, Tryz.ntmps58
  go_wp2_with (first | (go_at_call 88; refine Calls.mono (t_take _ _ _ HOK.out H.out) ?_; rintro e w' ⟨vf1, rfl, h'⟩; rw [hr]; replace H := Lib.hid h'; clear h') | (go_at_call 89; refine Calls.mono (t_set _ _ _ _ _ _ (by decide) H.out) ?_; rintro e w' ⟨rfl, h'⟩; replace H := Lib.hid h'; clear h'))
  exact hR.out _ _ ⟨_, rfl, H.out⟩
theorem node_new (i : Int) (hok : s.Ok) (hr : s.take.2.1 = true) (h : Led B w0 w (X.es vf (s.tick t) ++ C)) :
    Calls Tryz.prog 142 #[.pointer (some ⟨X.p, 0, none⟩), .int .i64 i] w fun e w' => ∃ vf2, e = .returned (.tuple #[.int .i64 s.take.1, .bool true]) ∧ Led B w0 w' (X.es vf2 ((s.newNode i).tick (t + 3)) ++ C) := by
  have H := Lib.hid h
  clear h
  have HOK := Lib.hid hok
  clear hok
  refine callsR fun R hR => ?_
  go_enter Tryz.func142, Tryz.ntmps142
  go_wp2_with (first | (go_at_call 88; refine Calls.mono (t_take _ _ _ HOK.out H.out) ?_; rintro e w' ⟨vf1, rfl, h'⟩; rw [hr]; replace H := Lib.hid h'; clear h') | (go_at_call 178; refine Calls.mono (item_put _ _ _ _ _ H.out) ?_; rintro e w' ⟨rfl, h'⟩; replace H := Lib.hid h'; clear h'))
  exact hR.out _ _ ⟨_, rfl, H.out⟩
theorem node_end (n : Int) (hok : s.Ok) (h : Led B w0 w (X.es vf (s.tick t) ++ C)) :
    Calls Tryz.prog 155 #[.pointer (some ⟨X.p, 0, none⟩), .int .i64 n] w fun e w' => ∃ vf2, e = .returned (.int .i64 (s.cell n 6)) ∧ Led B w0 w' (X.es vf2 ((s.endNode n).tick (t + 3)) ++ C) := by
  have H := Lib.hid h
  clear h
  have HOK := Lib.hid (hok.put (s.cell n 6) 9 (-1))
  clear hok
  refine callsR fun R hR => ?_
  go_enter Tryz.func155, Tryz.ntmps155
  go_wp2_with (first | (go_at_call 151; refine Calls.mono (t_cell _ _ _ _ _ (by decide) H.out) ?_; rintro e w' ⟨rfl, h'⟩; replace H := Lib.hid h'; clear h') | (go_at_call 89; refine Calls.mono (t_set _ _ _ _ _ _ (by decide) H.out) ?_; rintro e w' ⟨rfl, h'⟩; replace H := Lib.hid h'; clear h') | (go_at_call 109; refine Calls.mono (t_give _ _ _ _ HOK.out H.out) ?_; rintro e w' ⟨vf1, rfl, h'⟩; replace H := Lib.hid h'; clear h'))
  exact hR.out _ _ ⟨_, rfl, H.out⟩
theorem node_row (n k : Int) (hk : 0 ≤ k ∧ k < 10) (hn : s.n ≤ 65536) (h : Led B w0 w (X.es vf (s.tick t) ++ C)) :
    Calls Tryz.prog 186 #[.pointer (some ⟨X.p, 0, none⟩), .int .i64 n, .int .i64 k] w fun e w' => ∃ v, e = .returned v ∧ Led B w0 w' (X.es vf (s.tick (t + (s.rowL k s.n n).length)) ++ iT v (s.rowL k s.n n) :: C) := by
  have H := Lib.hid (iT_new h)
  clear h
  refine callsR fun R hR => ?_
  go_enter Tryz.func186, Tryz.ntmps186
  go_wp2_with fail
  go_loopw [1, 7] (fun x v wx => ∃ (L : List Int) (m : Int), x = .int .i64 m ∧ L.length ≤ s.n ∧ lenV v = L.length ∧ Hid (L ++ s.rowL k (s.n - L.length) m = s.rowL k s.n n) ∧ Hid (Led B w0 wx (X.es vf (s.tick (t + L.length)) ++ iT v L :: C))) (fun _ v _ => s.n - lenV v)
  case atStart => exact ⟨[], n, rfl, by simp, rfl, Lib.hid rfl, H⟩
  case round =>
    clear H
    obtain ⟨L, m, rfl, hL, hvl, HE, H⟩ := hrel
    have HT := Lib.hid (iT_tab H.out)
    obtain ⟨A, c, hv, _⟩ := iT_form HT.out
    subst hv
    cases hlv : s.has m with
    | false =>
      have he := HE.out
      rw [show s.rowL k (s.n - L.length) m = [] by cases s.n - L.length <;> simp [Ar.rowL, hlv], List.append_nil] at he
      have HE3 := Lib.hid he
      clear HE he
      go_wp2_with (first | (go_at_call 153; refine Calls.mono (t_live _ _ _ _ H.out) ?_; rintro e w' ⟨rfl, rfl⟩; (try rw [hlv])) | (go_at_call 179; refine Calls.mono (t_cells _ _ _ H.out) ?_; rintro e w' ⟨rfl, rfl⟩))
      exact hR.out _ _ ⟨_, rfl, by rw [← HE3.out]; exact H.out⟩
    | true =>
      by_cases hlt : L.length < s.n
      · have g1 : decide ((L.length : Int) < (s.n : Int)) = true := by simp; omega
        have he := HE.out
        rw [show s.n - L.length = (s.n - (L ++ [m]).length) + 1 by simp; omega, Ar.rowL, if_pos hlv, show L ++ m :: s.rowL k (s.n - (L ++ [m]).length) (s.cell m k) = (L ++ [m]) ++ s.rowL k (s.n - (L ++ [m]).length) (s.cell m k) by simp] at he
        have HE2 := Lib.hid he
        clear he HE
        have hln : (iR L).length ≤ 1000000000 := by rw [iR_len]; omega
        go_wp2_with (first | (go_at_call 153; refine Calls.mono (t_live _ _ _ _ H.out) ?_; rintro e w' ⟨rfl, rfl⟩; (try rw [hlv])) | (go_at_call 179; refine Calls.mono (t_cells _ _ _ H.out) ?_; rintro e w' ⟨rfl, rfl⟩) | (go_at_call 151; refine Calls.mono (t_cell _ _ _ _ _ hk H.out) ?_; rintro e w' ⟨rfl, h'⟩; replace H := Lib.hid h'; clear h') | (at_builtin; refine wpList_push (by rfl) (.tmp 18) (.tmp 20) 45 (by rfl) 0 3 _ 1 8 Tryz.underlying45 info_int_ (by rfl) (by decide) (.slice A L.length c) (iR (L)) #[.int .i64 (m)] (by rfl) (iT_tab H.out) (by rfl) (by rfl) (by simp [Value.oneCell']) (hln) (by decide) (Nat.zero_le _) ?_; intro v' w' p1 p2 p3; obtain ⟨A', c', hv, _⟩ := p1.form; simp only [List.length_append, List.length_singleton, iR_len] at hv; subst hv; replace H := Lib.hid (iT_push H.out p1 p2 p3); clear p1 p2 p3))
        go_roundw
        case rel => exact ⟨L ++ [m], s.cell m k, rfl, by simp; omega, by simp [lenV], HE2, by rw [List.length_append]; exact H⟩
        case measure => simp [lenV]; omega
      · have g1 : decide ((L.length : Int) < (s.n : Int)) = false := by simp; omega
        have he := HE.out
        rw [show s.n - L.length = 0 by omega, Ar.rowL, List.append_nil] at he
        have HE3 := Lib.hid he
        clear HE he
        go_wp2_with (first | (go_at_call 153; refine Calls.mono (t_live _ _ _ _ H.out) ?_; rintro e w' ⟨rfl, rfl⟩; (try rw [hlv])) | (go_at_call 179; refine Calls.mono (t_cells _ _ _ H.out) ?_; rintro e w' ⟨rfl, rfl⟩))
        exact hR.out _ _ ⟨_, rfl, by rw [← HE3.out]; exact H.out⟩
end
end Go.Proofs.YtognmhgdegpdiaaGreat
end
