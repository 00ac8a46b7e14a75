import Derived.Test.YtognmhgdegpdiaaSlotsStA
import Derived.Test.YtognmhgdegpdiaaSimAny
/- Handles against plain pools: the state of both as plain data, what holds of it, and what each call does to it. -/
namespace Go.Proofs.Ytognmhgdegpdiaa
open Go.RowKit
set_option linter.unusedVariables false
set_option linter.unusedSimpArgs false

/-- A place was taken anew: place i, life g. -/
structure New {α : Type} (s s' : PSt α) (i : Nat) (g : Int) (v : α) : Prop where
  most : s'.most = s.most
  len : s'.l.length = max s.l.length (i + 1)
  here : s'.l[i]? = some ⟨g, true, v⟩
  oth : ∀ j, j ≠ i → s'.l[j]? = s.l[j]?
  was : ∀ x, s.l[i]? = some x → x.taken = false ∧ g = wrap64 (x.gen + 1)
  one : s.l[i]? = none → g = 1
theorem TakeR.new {α : Type} {s s' : PSt α} {v : α} {a g : Int} {ok : Bool} (hw : s.WF) (h : TakeR s v a g ok s') : (ok = false ∧ a = 0 ∧ g = 0 ∧ s' = s ∧ s.l.length = s.most + s.free.length) ∨ (ok = true ∧ ∃ i : Nat, a = i ∧ New s s' i g v) := by
  rcases h with ⟨h1, h2, h3, h4, h5, h6⟩ | ⟨h1, h2, h3, h4, h5, rfl⟩ | ⟨i, fs, x, h1, hx, h3, h4, h5, rfl⟩
  · refine .inl ⟨h5, h3, h4, h6, ?_⟩
    have := hw.le
    rw [h1, List.length_nil]
    omega
  · refine .inr ⟨h5, s.l.length, h3, rfl, by simp [PSt.fresh], ?_, fun j hj => ?_, fun x hx => ?_, fun _ => h4⟩
    · simp [PSt.fresh, h4]
    · simp only [PSt.fresh]
      rcases Nat.lt_or_ge j s.l.length with hlt | hge
      · rw [List.getElem?_append_left hlt]
      · rw [List.getElem?_eq_none (by simp; omega), List.getElem?_eq_none hge]
    · rw [List.getElem?_eq_none (Nat.le_refl _)] at hx; cases hx
  · have hi := (List.getElem?_eq_some_iff.1 hx).1
    refine .inr ⟨h5, i, h3, rfl, by simp [PSt.retake]; omega, ?_, fun j hj => ?_, fun y hy => ?_, fun hn => ?_⟩
    · simp only [PSt.retake]
      rw [List.getElem?_set_self hi, h4]
    · simp only [PSt.retake]
      rw [List.getElem?_set_ne (Ne.symm hj)]
    · rw [hx] at hy
      injection hy with hy
      subst hy
      obtain ⟨y, hy, ht⟩ := (hw.free i).1 (by rw [h1]; simp)
      rw [hx] at hy
      injection hy with hy
      subst hy
      exact ⟨ht, h4⟩
    · rw [hx] at hn; cases hn
/-- The two take the same place. -/
theorem Sim.take2 {α : Type} {V : α → Int → Prop} {s s' : PSt α} {r r' : PSt Int} {v : α} {u a g a' g' : Int} {ok ok' : Bool} (h : Sim V s r) (q1 : TakeR s v a g ok s') (q2 : TakeR r u a' g' ok' r') :
    a' = a ∧ g' = g ∧ ok' = ok ∧ (ok = true → s'.free = r'.free) := by
  have hf := h.free
  have hl := h.len
  have hm := h.most
  rcases q1 with ⟨h1, h2, rfl, rfl, rfl, rfl⟩ | ⟨h1, h2, rfl, rfl, rfl, rfl⟩ | ⟨i, fs, x, h1, hx, rfl, rfl, rfl, rfl⟩
  · rcases q2 with ⟨k1, k2, rfl, rfl, rfl, rfl⟩ | ⟨k1, k2, _⟩ | ⟨i', fs', x', k1, _⟩
    · exact ⟨rfl, rfl, rfl, fun e => by cases e⟩
    · omega
    · rw [← hf, h1] at k1; simp at k1
  · rcases q2 with ⟨k1, k2, _⟩ | ⟨k1, k2, rfl, rfl, rfl, rfl⟩ | ⟨i', fs', x', k1, _⟩
    · omega
    · exact ⟨by rw [hl], rfl, rfl, fun _ => hf⟩
    · rw [← hf, h1] at k1; simp at k1
  · rcases q2 with ⟨k1, _⟩ | ⟨k1, _⟩ | ⟨i', fs', x', k1, hx', rfl, rfl, rfl, rfl⟩
    · rw [← hf, h1] at k1; simp at k1
    · rw [← hf, h1] at k1; simp at k1
    · rw [← hf, h1] at k1
      have e := List.append_inj' k1 rfl
      obtain rfl : i = i' := by simpa using e.2
      obtain rfl := e.1
      refine ⟨rfl, ?_, rfl, fun _ => rfl⟩
      rw [(h.at_ i x x' hx hx').1]
theorem Sim.new {α : Type} {V V' : α → Int → Prop} {s s' : PSt α} {r r' : PSt Int} {v : α} {u g : Int} {i : Nat} (h : Sim V s r) (q1 : New s s' i g v) (q2 : New r r' i g u) (hf : s'.free = r'.free) (hv : V' v u) (hm : ∀ (j : Nat) (x : Pl α) (y : Pl Int), s.l[j]? = some x → r.l[j]? = some y → V x.v y.v → V' x.v y.v) : Sim V' s' r' := by
  refine ⟨by rw [q1.most, q2.most, h.most], hf, by rw [q1.len, q2.len, h.len], fun j x y hx hy => ?_⟩
  by_cases hj : j = i
  · subst hj
    rw [q1.here] at hx
    rw [q2.here] at hy
    injection hx with hx
    injection hy with hy
    subst hx hy
    exact ⟨rfl, rfl, fun _ => hv⟩
  · rw [q1.oth j hj] at hx
    rw [q2.oth j hj] at hy
    obtain ⟨e1, e2, e3⟩ := h.at_ j x y hx hy
    exact ⟨e1, e2, fun ht => hm j x y hx hy (e3 ht)⟩
theorem Sim.mono {α : Type} {V V' : α → Int → Prop} {s : PSt α} {r : PSt Int} (h : Sim V s r) (hm : ∀ (j : Nat) (x : Pl α) (y : Pl Int), s.l[j]? = some x → r.l[j]? = some y → x.taken = true → V x.v y.v → V' x.v y.v) : Sim V' s r :=
  ⟨h.most, h.free, h.len, fun j x y hx hy => ⟨(h.at_ j x y hx hy).1, (h.at_ j x y hx hy).2.1, fun ht => hm j x y hx hy ht ((h.at_ j x y hx hy).2.2 ht)⟩⟩

/-- Both, in memory and as plain data. -/
structure PM where
  t : Nat
  ph : Nat
  pi : Nat
  b : Nat
  n : Nat
  m : Nat
  mh : Nat
  mi : Nat
  lh : Value
  fh : Value
  li : Value
  fi : Value
  hg : Value
  hi : Value
  hv : Value
  hb : Value
  ig : Value
  ii : Value
  iv : Value
  ib : Value
  vk : Value
  vr : Value
  vn : Value
  vf : Value
  vc : Value
  vi : Value
  sh : PSt V3
  si : PSt V3
  f : Int → Option (Int × Int)
  rh : PSt Int
  ri : PSt Int
  kd : List Int
  rt : List Int
  nn : List Int
  rf : List (Int × Int)
  cl : List Int
  inn : List Int

def VH (X : PM) (v : V3) (u : Int) : Prop := ∃ a : Nat, u = (a : Int) ∧ X.kd[a]? = some v.a ∧ X.rt[a]? = some v.b ∧ X.nn[a]? = some v.c
def VI (X : PM) (v : V3) (u : Int) : Prop := ∃ j : Nat, u = (j : Int) ∧ X.cl[j]? = some v.a
structure PInv (k : Nat) (X : PM) : Prop where
  simH : Sim (VH X) X.sh X.rh
  simI : Sim (VI X) X.si X.ri
  lrt : X.rt.length = X.kd.length
  lnn : X.nn.length = X.kd.length
  lrf : X.rf.length = X.kd.length
  lin : X.inn.length = X.cl.length
  lkd : X.kd.length ≤ k
  lcl : X.cl.length ≤ k
  nk : X.n ≤ k
  ref : ∀ (i : Nat) (x : Pl V3) (y : Pl Int), X.sh.l[i]? = some x → X.rh.l[i]? = some y → x.taken = true → ∃ a : Nat, y.v = (a : Int) ∧ X.rf[a]? = some ((i : Int), x.gen)
  own : ∀ (j : Nat) (x : Pl V3) (y : Pl Int), X.si.l[j]? = some x → X.ri.l[j]? = some y → x.taken = true →
    ∃ (i : Nat) (x' : Pl V3) (y' : Pl Int) (q : Nat), X.sh.l[i]? = some x' ∧ X.rh.l[i]? = some y' ∧ x'.taken = true ∧ x.v.b = (i : Int) ∧ x.v.c = x'.gen ∧ y.v = (q : Int) ∧ X.inn[q]? = some y'.v
  map : MapOk X.si X.f
  gens : ∀ (i : Nat) (x : Pl V3), X.si.l[i]? = some x → 1 ≤ x.gen ∧ x.gen ≤ (k : Int) + 1
  cells : ∀ (i : Nat) (x : Pl V3), X.si.l[i]? = some x → x.taken = true → 0 ≤ x.v.a ∧ x.v.a ≤ 40

section
variable {k : Nat} {X : PM}
theorem PInv.gens_ok (h : PInv k X) : GensOk X.si := fun i x hx _ => (h.gens i x hx).1
theorem PInv.cells_ok (h : PInv k X) : CellsOk X.si := fun i x hx ht => by have := h.cells i x hx ht; unfold in64; omega
theorem PInv.mono (h : PInv k X) : PInv (k + 1) X :=
  ⟨h.simH, h.simI, h.lrt, h.lnn, h.lrf, h.lin, by have := h.lkd; omega, by have := h.lcl; omega, by have := h.nk; omega, h.ref, h.own, h.map, fun i x hx => by have := h.gens i x hx; omega, h.cells⟩
/-- Of a heap that is there: its number. -/
theorem PInv.heap (h : PInv k X) {i : Nat} {x : Pl V3} (hx : X.sh.l[i]? = some x) (ht : x.taken = true) : ∃ (y : Pl Int) (a : Nat), X.rh.l[i]? = some y ∧ y.v = (a : Int) ∧ y.taken = true ∧ x.gen = y.gen ∧ X.kd[a]? = some x.v.a ∧ X.rt[a]? = some x.v.b ∧ X.nn[a]? = some x.v.c ∧ X.rf[a]? = some ((i : Int), x.gen) ∧ a < X.kd.length := by
  obtain ⟨y, hy, e1, e2, e3⟩ := h.simH.get hx
  obtain ⟨a, ha, h1, h2, h3⟩ := e3 ht
  obtain ⟨a', ha', h4⟩ := h.ref i x y hx hy ht
  obtain rfl : a = a' := by omega
  exact ⟨y, a, hy, ha, e2.symm.trans ht, e1, h1, h2, h3, h4, (List.getElem?_eq_some_iff.1 h1).1⟩
/-- Two heaps that are there have two numbers. -/
theorem PInv.heap_ne (h : PInv k X) {i i' : Nat} {x x' : Pl V3} {y y' : Pl Int} (hx : X.sh.l[i]? = some x) (ht : x.taken = true) (hy : X.rh.l[i]? = some y) (hx' : X.sh.l[i']? = some x') (ht' : x'.taken = true) (hy' : X.rh.l[i']? = some y') (hv : y.v = y'.v) : i = i' := by
  obtain ⟨a, ha, h1⟩ := h.ref i x y hx hy ht
  obtain ⟨a', ha', h2⟩ := h.ref i' x' y' hx' hy' ht'
  obtain rfl : a = a' := by omega
  rw [h1] at h2
  injection h2 with h2
  injection h2 with h2 _
  omega
/-- Of an item that is there: its number, its heap's. -/
theorem PInv.item (h : PInv k X) {j : Nat} {x : Pl V3} (hx : X.si.l[j]? = some x) (ht : x.taken = true) : ∃ (y : Pl Int) (q a : Nat), X.ri.l[j]? = some y ∧ y.v = (q : Int) ∧ y.taken = true ∧ x.gen = y.gen ∧ X.cl[q]? = some x.v.a ∧ X.inn[q]? = some (a : Int) ∧ X.rf[a]? = some (x.v.b, x.v.c) ∧ q < X.cl.length ∧ a < X.kd.length := by
  obtain ⟨y, hy, e1, e2, e3⟩ := h.simI.get hx
  obtain ⟨q, hq, h1⟩ := e3 ht
  obtain ⟨i, x', y', q', hx', hy', ht', hb, hc, hq', hi⟩ := h.own j x y hx hy ht
  obtain rfl : q = q' := by omega
  obtain ⟨a, ha, hr⟩ := h.ref i x' y' hx' hy' ht'
  refine ⟨y, q, a, hy, hq, e2.symm.trans ht, e1, h1, by rw [hi, ha], by rw [hr, hb, hc], (List.getElem?_eq_some_iff.1 h1).1, ?_⟩
  have := (List.getElem?_eq_some_iff.1 hr).1
  rw [h.lrf] at this
  exact this
/-- Which heap an item is in, by number and by handle. -/
theorem PInv.same (h : PInv k X) {j i : Nat} {x x' : Pl V3} {y y' : Pl Int} {q : Nat} (hx : X.si.l[j]? = some x) (ht : x.taken = true) (hy : X.ri.l[j]? = some y) (hq : y.v = (q : Int)) (hx' : X.sh.l[i]? = some x') (ht' : x'.taken = true) (hy' : X.rh.l[i]? = some y') :
    ∃ a : Int, X.inn[q]? = some a ∧ (a == y'.v) = refEq x.v.b x.v.c i x'.gen := by
  obtain ⟨i2, x2, y2, q2, hx2, hy2, ht2, hb, hc, hq2, hin⟩ := h.own j x y hx hy ht
  obtain rfl : q = q2 := by omega
  refine ⟨y2.v, hin, ?_⟩
  rw [Bool.eq_iff_iff, beq_iff_eq, refEq_true, hb, hc]
  constructor
  · intro e
    obtain rfl := h.heap_ne hx2 ht2 hy2 hx' ht' hy' e
    rw [hx2] at hx'
    injection hx' with hx'
    subst hx'
    exact ⟨rfl, rfl⟩
  · rintro ⟨e1, _⟩
    obtain rfl : i2 = i := by omega
    rw [hy2] at hy'
    injection hy' with hy'
    subst hy'
    rfl
end
theorem app_same {α : Type} {L : List α} {i : Nat} {v : α} (u : α) (h : L[i]? = some v) : (L ++ [u])[i]? = some v := by
  rw [List.getElem?_append_left (List.getElem?_eq_some_iff.1 h).1]
  exact h
theorem app_last {α : Type} (L : List α) (u : α) {i : Nat} (h : i = L.length) : (L ++ [u])[i]? = some u := by
  subst h
  simp

/-- Make, where the kind is one. -/
theorem PInv.make {k : Nat} {X : PM} {kk a g e0 a' g' : Int} {ok : Bool} {sh' : PSt V3} {rh' : PSt Int} (h : PInv k X) (hs : X.sh.WF) (hr : X.rh.WF) (hk1 : 1 ≤ kk) (hk2 : kk ≤ 5) (q1 : MakeR X.sh kk a g e0 sh') (q2 : TakeR X.rh (X.kd.length : Int) a' g' ok rh') :
    a' = a ∧ g' = g ∧ e0 = (if ok = true then 0 else 13) ∧ (ok = false → sh' = X.sh ∧ rh' = X.rh) ∧ (ok = true → ∀ (lh fh hg hi hv hb vk vr vn vf : Value),
      PInv (k + 1) { X with lh := lh, fh := fh, hg := hg, hi := hi, hv := hv, hb := hb, vk := vk, vr := vr, vn := vn, vf := vf, sh := sh', rh := rh', kd := X.kd ++ [kk], rt := X.rt ++ [-1], nn := X.nn ++ [0], rf := X.rf ++ [(a, g)] }) := by
  rcases q1 with ⟨h1, _⟩ | ⟨_, ok1, q1, rfl⟩
  · simp [hk1, hk2] at h1
  · obtain ⟨rfl, rfl, rfl, hf⟩ := h.simH.take2 q1 q2
    refine ⟨rfl, rfl, rfl, fun he => ?_, fun he lh fh hg hi hv hb vk vr vn vf => ?_⟩
    · rcases q1.new hs with ⟨_, _, _, h1, _⟩ | ⟨h1, _⟩
      · rcases q2.new hr with ⟨_, _, _, h2, _⟩ | ⟨h2, _⟩
        · exact ⟨h1, h2⟩
        · rw [he] at h2; cases h2
      · rw [he] at h1; cases h1
    · have hf := hf he
      rcases q1.new hs with ⟨h1, _⟩ | ⟨_, i, hai, n1⟩
      · rw [he] at h1; cases h1
      rcases q2.new hr with ⟨h1, _⟩ | ⟨_, i', hai', n2⟩
      · rw [he] at h1; cases h1
      obtain rfl : i = i' := by omega
      refine ⟨h.simH.new n1 n2 hf ⟨X.kd.length, rfl, app_last _ _ rfl, app_last _ _ h.lrt.symm, app_last _ _ h.lnn.symm⟩ ?_, h.simI, by simp [h.lrt], by simp [h.lnn], by simp [h.lrf], h.lin, by have := h.lkd; simp; omega, by have := h.lcl; simp; omega, by have := h.nk; simp only; omega, ?_, ?_, h.map, fun i x hx => by have := h.gens i x hx; omega, h.cells⟩
      · rintro j x y hx hy ⟨a, ha, h1, h2, h3⟩
        exact ⟨a, ha, app_same _ h1, app_same _ h2, app_same _ h3⟩
      · intro j x y hx hy ht
        by_cases hj : j = i
        · subst hj
          simp only at hx hy
          rw [n1.here] at hx
          rw [n2.here] at hy
          injection hx with hx
          injection hy with hy
          subst hx hy
          exact ⟨X.kd.length, rfl, by simp only; rw [hai]; exact app_last _ _ h.lrf.symm⟩
        · simp only at hx hy
          rw [n1.oth j hj] at hx
          rw [n2.oth j hj] at hy
          obtain ⟨a, ha, hr⟩ := h.ref j x y hx hy ht
          exact ⟨a, ha, app_same _ hr⟩
      · intro j x y hx hy ht
        obtain ⟨i2, x', y', q, hx', hy', ht', hb, hc, hq, hin⟩ := h.own j x y hx hy ht
        have hi2 : i2 ≠ i := fun e => by
          subst e
          have := (n1.was x' hx').1
          rw [ht'] at this
          cases this
        exact ⟨i2, x', y', q, by simp only; rw [n1.oth i2 hi2]; exact hx', by simp only; rw [n2.oth i2 hi2]; exact hy', ht', hb, hc, hq, hin⟩

/-- Put, where there is the heap, room, and no such cell. -/
theorem PInv.put {k : Nat} {X : PM} {c u v u' v' : Int} {ok : Bool} {si' : PSt V3} {ri' : PSt Int} {i : Nat} {x : Pl V3} {y : Pl Int} (h : PInv k X) (hs : X.si.WF) (hr : X.ri.WF) (hk : k ≤ 1000) (hc1 : 0 ≤ c) (hc2 : c ≤ 40) (hx : X.sh.l[i]? = some x) (ht : x.taken = true) (hy : X.rh.l[i]? = some y)
    (hn : X.f c = none) (q1 : TakeR X.si ⟨c, (i : Int), x.gen⟩ u v true si') (q2 : TakeR X.ri (X.cl.length : Int) u' v' ok ri') :
    u' = u ∧ v' = v ∧ ok = true ∧ ∀ (n' : Nat) (li fi ig ii iv ib vc vi : Value), n' ≤ X.n + 1 →
      PInv (k + 1) { X with n := n', li := li, fi := fi, ig := ig, ii := ii, iv := iv, ib := ib, vc := vc, vi := vi, si := si', ri := ri', f := upd X.f c (some (u, v)), cl := X.cl ++ [c], inn := X.inn ++ [y.v] } := by
  obtain ⟨rfl, rfl, rfl, hf⟩ := h.simI.take2 q1 q2
  have hf := hf rfl
  refine ⟨rfl, rfl, rfl, fun n' li fi ig ii iv ib vc vi hn' => ?_⟩
  rcases q1.new hs with ⟨h1, _⟩ | ⟨_, j, hj, n1⟩
  · cases h1
  rcases q2.new hr with ⟨h1, _⟩ | ⟨_, j', hj', n2⟩
  · cases h1
  obtain rfl : j = j' := by omega
  subst hj
  have hgen : 1 ≤ v' ∧ v' ≤ (k : Int) + 2 := by
    cases hxo : X.si.l[j]? with
    | none => have := n1.one hxo; omega
    | some xo =>
      have h1 := (n1.was xo hxo).2
      have h2 := h.gens j xo hxo
      rw [h1]
      unfold wrap64
      omega
  refine ⟨h.simH, h.simI.new n1 n2 hf ⟨X.cl.length, rfl, app_last _ _ rfl⟩ ?_, h.lrt, h.lnn, h.lrf, by simp [h.lin], by have := h.lkd; simp only; omega, by have := h.lcl; simp; omega, by have := h.nk; simp only; omega, h.ref, ?_, ?_, ?_, ?_⟩
  · rintro q x y hx hy ⟨a, ha, h1⟩
    exact ⟨a, ha, app_same _ h1⟩
  · intro q x1 y1 hx1 hy1 ht1
    simp only at hx1 hy1
    by_cases hq : q = j
    · subst hq
      rw [n1.here] at hx1
      rw [n2.here] at hy1
      injection hx1 with hx1
      injection hy1 with hy1
      subst hx1 hy1
      exact ⟨i, x, y, X.cl.length, hx, hy, ht, rfl, rfl, rfl, app_last _ _ h.lin.symm⟩
    · rw [n1.oth q hq] at hx1
      rw [n2.oth q hq] at hy1
      obtain ⟨i2, x', y', q', hx', hy', ht', hb, hc, hq', hin⟩ := h.own q x1 y1 hx1 hy1 ht1
      exact ⟨i2, x', y', q', hx', hy', ht', hb, hc, hq', app_same _ hin⟩
  · exact h.map.add (x := ⟨v', true, ⟨c, (i : Int), x.gen⟩⟩) hn n1.here rfl rfl n1.oth fun y hy => (n1.was y hy).1
  · intro q x1 hx1
    simp only at hx1
    by_cases hq : q = j
    · subst hq
      rw [n1.here] at hx1
      injection hx1 with hx1
      subst hx1
      simp only
      omega
    · rw [n1.oth q hq] at hx1
      have := h.gens q x1 hx1
      omega
  · intro q x1 hx1 ht1
    simp only at hx1
    by_cases hq : q = j
    · subst hq
      rw [n1.here] at hx1
      injection hx1 with hx1
      subst hx1
      exact ⟨hc1, hc2⟩
    · rw [n1.oth q hq] at hx1
      exact h.cells q x1 hx1 ht1

theorem giveAt_at {α : Type} {s : PSt α} {i j : Nat} {x : Pl α} {z : α} {y : Pl α} (hi : i < s.l.length) (hj : (s.giveAt i x z).l[j]? = some y) (ht : y.taken = true) : j ≠ i ∧ s.l[j]? = some y := by
  simp only [PSt.giveAt] at hj
  by_cases e : i = j
  · subst e
    rw [List.getElem?_set_self hi] at hj
    injection hj with hj
    subst hj
    cases ht
  · rw [List.getElem?_set_ne e] at hj
    exact ⟨Ne.symm e, hj⟩
theorem giveAt_gen {s : PSt V3} {i j : Nat} {x y : Pl V3} {z : V3} (hx : s.l[i]? = some x) (hj : (s.giveAt i x z).l[j]? = some y) : ∃ y', s.l[j]? = some y' ∧ y.gen = y'.gen := by
  simp only [PSt.giveAt] at hj
  by_cases e : i = j
  · subst e
    rw [List.getElem?_set_self (List.getElem?_eq_some_iff.1 hx).1] at hj
    injection hj with hj
    subst hj
    exact ⟨x, hx, rfl⟩
  · rw [List.getElem?_set_ne e] at hj
    exact ⟨y, hj, rfl⟩

/-- An item goes. -/
theorem PInv.take {k : Nat} {X : PM} {j : Nat} {x : Pl V3} {y : Pl Int} (h : PInv k X) (hx : X.si.l[j]? = some x) (ht : x.taken = true) (hy : X.ri.l[j]? = some y) (fi ib : Value) :
    PInv k { X with fi := fi, ib := ib, si := X.si.giveAt j x ⟨0, 0, 0⟩, ri := X.ri.giveAt j y y.v, f := upd X.f x.v.a none } := by
  have hj := (List.getElem?_eq_some_iff.1 hx).1
  have hj2 := (List.getElem?_eq_some_iff.1 hy).1
  refine ⟨h.simH, h.simI.giveAt hx hy, h.lrt, h.lnn, h.lrf, h.lin, h.lkd, h.lcl, h.nk, h.ref, ?_, h.map.give hx ht, ?_, ?_⟩
  · intro q x1 y1 hx1 hy1 ht1
    obtain ⟨hq, hx2⟩ := giveAt_at hj hx1 ht1
    simp only [PSt.giveAt] at hy1
    rw [List.getElem?_set_ne (Ne.symm hq)] at hy1
    exact h.own q x1 y1 hx2 hy1 ht1
  · intro q x1 hx1
    obtain ⟨y', hy', e⟩ := giveAt_gen hx hx1
    rw [e]
    exact h.gens q y' hy'
  · intro q x1 hx1 ht1
    obtain ⟨hq, hx2⟩ := giveAt_at hj hx1 ht1
    exact h.cells q x1 hx2 ht1

/-- A heap goes that no item is in. -/
theorem PInv.drop {k : Nat} {X : PM} {i : Nat} {x : Pl V3} {y : Pl Int} (h : PInv k X) (hx : X.sh.l[i]? = some x) (hy : X.rh.l[i]? = some y) (hno : ∀ (j : Nat) (z : Pl V3), X.si.l[j]? = some z → z.taken = true → z.v.b ≠ (i : Int)) (fh hb : Value) :
    PInv k { X with fh := fh, hb := hb, sh := X.sh.giveAt i x ⟨0, 0, 0⟩, rh := X.rh.giveAt i y y.v } := by
  have hi := (List.getElem?_eq_some_iff.1 hx).1
  refine ⟨h.simH.giveAt hx hy, h.simI, h.lrt, h.lnn, h.lrf, h.lin, h.lkd, h.lcl, h.nk, ?_, ?_, h.map, h.gens, h.cells⟩
  · intro q x1 y1 hx1 hy1 ht1
    obtain ⟨hq, hx2⟩ := giveAt_at hi hx1 ht1
    simp only [PSt.giveAt] at hy1
    rw [List.getElem?_set_ne (Ne.symm hq)] at hy1
    exact h.ref q x1 y1 hx2 hy1 ht1
  · intro j z w hz hw hzt
    obtain ⟨i2, x', y', q, hx', hy', ht', hb', hc', hq', hin⟩ := h.own j z w hz hw hzt
    have hne : i ≠ i2 := fun e => hno j z hz hzt (by rw [hb', e])
    refine ⟨i2, x', y', q, ?_, ?_, ht', hb', hc', hq', hin⟩
    · simp only [PSt.giveAt]
      rw [List.getElem?_set_ne hne]; exact hx'
    · simp only [PSt.giveAt]
      rw [List.getElem?_set_ne hne]; exact hy'

/-- Root. -/
theorem PInv.root {k : Nat} {X : PM} {i a : Nat} {x : Pl V3} {y : Pl Int} (r n : Int) (h : PInv k X) (hx : X.sh.l[i]? = some x) (ht : x.taken = true) (hy : X.rh.l[i]? = some y) (ha : y.v = (a : Int)) :
    PInv k { X with sh := X.sh.setAt i x ⟨x.v.a, r, n⟩, rt := X.rt.set a r, nn := X.nn.set a n } := by
  have hi := (List.getElem?_eq_some_iff.1 hx).1
  obtain ⟨y', a', hy', ha', hyt, hge, h1, h2, h3, h4, h5⟩ := h.heap hx ht
  rw [hy] at hy'
  injection hy' with hy'
  subst hy'
  obtain rfl : a = a' := by omega
  have hget : ∀ (q : Nat) (z : Pl V3), (X.sh.setAt i x ⟨x.v.a, r, n⟩).l[q]? = some z → ∃ z', X.sh.l[q]? = some z' ∧ z.gen = z'.gen ∧ z.taken = z'.taken ∧ z.v.a = z'.v.a ∧ (q ≠ i → z = z') ∧ (q = i → z.v = ⟨x.v.a, r, n⟩) := by
    intro q z hz
    simp only [PSt.setAt] at hz
    by_cases e : i = q
    · subst e
      rw [List.getElem?_set_self hi] at hz
      injection hz with hz
      subst hz
      exact ⟨x, hx, rfl, rfl, rfl, fun e => absurd rfl e, fun _ => rfl⟩
    · rw [List.getElem?_set_ne e] at hz
      exact ⟨z, hz, rfl, rfl, rfl, fun _ => rfl, fun e2 => absurd e2.symm e⟩
  refine ⟨⟨h.simH.most, h.simH.free, by simpa [PSt.setAt] using h.simH.len, ?_⟩, h.simI, by simp [h.lrt], by simp [h.lnn], h.lrf, h.lin, h.lkd, h.lcl, h.nk, ?_, ?_, h.map, h.gens, h.cells⟩
  · intro q z w hz hw
    obtain ⟨z', hz', e1, e2, e3, e4, e5⟩ := hget q z hz
    obtain ⟨f1, f2, f3⟩ := h.simH.at_ q z' w hz' hw
    refine ⟨e1.trans f1, e2.trans f2, fun hzt => ?_⟩
    obtain ⟨a2, ha2, g1, g2, g3⟩ := f3 (e2.symm.trans hzt)
    by_cases hq : q = i
    · subst hq
      simp only at hw
      rw [hy] at hw
      injection hw with hw
      subst hw
      obtain rfl : a = a2 := by omega
      refine ⟨a, ha2, by simp only; rw [e5 rfl]; exact h1, ?_, ?_⟩
      · rw [e5 rfl]; simp only; exact List.getElem?_set_self (by rw [h.lrt]; exact h5)
      · rw [e5 rfl]; simp only; exact List.getElem?_set_self (by rw [h.lnn]; exact h5)
    · have hne : a ≠ a2 := fun e => by
        subst e
        exact hq (h.heap_ne hz' (e2.symm.trans hzt) hw hx ht hy (by omega))
      rw [e4 hq]
      exact ⟨a2, ha2, g1, by simp only; rw [List.getElem?_set_ne hne]; exact g2, by simp only; rw [List.getElem?_set_ne hne]; exact g3⟩
  · intro q z w hz hw hzt
    obtain ⟨z', hz', e1, e2, _⟩ := hget q z hz
    rw [e1]
    exact h.ref q z' w hz' hw (e2.symm.trans hzt)
  · intro j z w hz hw hzt
    obtain ⟨i2, x', y2, q, hx', hy', ht', hb', hc', hq', hin⟩ := h.own j z w hz hw hzt
    have hi2 := (List.getElem?_eq_some_iff.1 hx').1
    have : ∃ x2, (X.sh.setAt i x ⟨x.v.a, r, n⟩).l[i2]? = some x2 := ⟨_, List.getElem?_eq_getElem (by simpa [PSt.setAt] using hi2)⟩
    obtain ⟨x2, hx2⟩ := this
    obtain ⟨z', hz', e1, e2, _⟩ := hget i2 x2 hx2
    rw [hx'] at hz'
    injection hz' with hz'
    subst hz'
    exact ⟨i2, x2, y2, q, hx2, hy', e2.trans ht', hb', hc'.trans e1.symm, hq', hin⟩

/-- Join: the items of heap i2 are heap i's now. -/
def joinL (a b : Int) (l : List Int) : List Int := l.map fun x => if x = b then a else x
theorem PInv.join {k : Nat} {X : PM} {i i2 : Nat} {x x2 : Pl V3} {y y2 : Pl Int} (h : PInv k X) (hne : i ≠ i2) (hx : X.sh.l[i]? = some x) (ht : x.taken = true) (hy : X.rh.l[i]? = some y) (hx2 : X.sh.l[i2]? = some x2) (ht2 : x2.taken = true) (hy2 : X.rh.l[i2]? = some y2) (fh hb : Value) :
    PInv k { X with fh := fh, hb := hb, sh := X.sh.giveAt i2 x2 ⟨0, 0, 0⟩, rh := X.rh.giveAt i2 y2 y2.v, si := putAll (i : Int) x.gen X.si (listQ X.si (i2 : Int) x2.gen (allTo X.si.l X.si.l.length)), inn := joinL y.v y2.v X.inn } := by
  have hsame := putFold_same (i : Int) x.gen (listQ X.si (i2 : Int) x2.gen (allTo X.si.l X.si.l.length)) X.si
  have hget := fun q => putAll_get (s := X.si) (a := (i : Int)) (g := x.gen) (b := (i2 : Int)) (d := x2.gen) q
  have hg1 : ∀ (q : Nat) (z : Pl V3), (putAll (i : Int) x.gen X.si (listQ X.si (i2 : Int) x2.gen (allTo X.si.l X.si.l.length))).l[q]? = some z → ∃ z', X.si.l[q]? = some z' ∧ z.gen = z'.gen ∧ z.taken = z'.taken ∧ z.v.a = z'.v.a ∧ z = (if ofH (i2 : Int) x2.gen z' = true then putPl (i : Int) x.gen z' else z') := by
    intro q z hz
    rw [hget q] at hz
    cases hq : X.si.l[q]? with
    | none => rw [hq] at hz; cases hz
    | some z' =>
      rw [hq] at hz
      simp only [Option.map_some, Option.some.injEq] at hz
      refine ⟨z', rfl, ?_, ?_, ?_, hz.symm⟩ <;> rw [← hz] <;> split <;> rfl
  have hmid : PInv k { X with si := putAll (i : Int) x.gen X.si (listQ X.si (i2 : Int) x2.gen (allTo X.si.l X.si.l.length)), inn := joinL y.v y2.v X.inn } := by
    refine ⟨h.simH, ⟨hsame.1.trans h.simI.most, hsame.2.1.trans h.simI.free, hsame.2.2.trans h.simI.len, ?_⟩, h.lrt, h.lnn, h.lrf, by simp [joinL, h.lin], h.lkd, h.lcl, h.nk, h.ref, ?_, h.map.set fun q => ?_, ?_, ?_⟩
    · intro q z w hz hw
      obtain ⟨z', hz', e1, e2, e3, _⟩ := hg1 q z hz
      obtain ⟨f1, f2, f3⟩ := h.simI.at_ q z' w hz' hw
      refine ⟨e1.trans f1, e2.trans f2, fun hzt => ?_⟩
      obtain ⟨j, hj, hc⟩ := f3 (e2.symm.trans hzt)
      exact ⟨j, hj, by rw [e3]; exact hc⟩
    · intro j z w hz hw hzt
      obtain ⟨z', hz', e1, e2, e3, e4⟩ := hg1 j z hz
      have hzt' := e2.symm.trans hzt
      obtain ⟨i3, x', y', q, hx', hy', ht', hb', hc', hq', hin⟩ := h.own j z' w hz' hw hzt'
      obtain ⟨a, ha1, ha2⟩ := h.same hz' hzt' hw hq' hx2 ht2 hy2
      rw [hin] at ha1
      injection ha1 with ha1
      subst ha1
      have hin2 : (joinL y.v y2.v X.inn)[q]? = some (if y'.v = y2.v then y.v else y'.v) := by
        unfold joinL
        rw [List.getElem?_map, hin]
        rfl
      cases ho : refEq z'.v.b z'.v.c (i2 : Int) x2.gen with
      | true =>
        rw [ho] at ha2
        rw [if_pos (by simpa using ha2)] at hin2
        rw [if_pos (by simp [ofH, hzt', ho])] at e4
        exact ⟨i, x, y, q, hx, hy, ht, by rw [e4]; rfl, by rw [e4]; rfl, hq', hin2⟩
      | false =>
        rw [ho] at ha2
        rw [if_neg (by simpa using ha2)] at hin2
        rw [if_neg (by simp [ofH, ho])] at e4
        exact ⟨i3, x', y', q, hx', hy', ht', by rw [e4]; exact hb', by rw [e4]; exact hc', hq', hin2⟩
    · simp only
      rw [hget q]
      cases hq : X.si.l[q]? with
      | none => rfl
      | some z =>
        simp only [Option.map_some]
        split <;> rfl
    · intro q z hz
      obtain ⟨z', hz', e1, _⟩ := hg1 q z hz
      rw [e1]
      exact h.gens q z' hz'
    · intro q z hz hzt
      obtain ⟨z', hz', e1, e2, e3, _⟩ := hg1 q z hz
      rw [e3]
      exact h.cells q z' hz' (e2.symm.trans hzt)
  refine hmid.drop hx2 hy2 (fun j z hz hzt hzb => ?_) fh hb
  obtain ⟨z', hz', e1, e2, e3, e4⟩ := hg1 j z hz
  have hzt' := e2.symm.trans hzt
  obtain ⟨y3, q3, a3, hy3, _⟩ := h.item hz' hzt'
  obtain ⟨i3, x', y', q, hx', hy', ht', hb', hc', hq', hin⟩ := h.own j z' y3 hz' hy3 hzt'
  cases ho : refEq z'.v.b z'.v.c (i2 : Int) x2.gen with
  | true =>
    rw [if_pos (by simp [ofH, hzt', ho])] at e4
    rw [e4] at hzb
    simp only [putPl] at hzb
    omega
  | false =>
    rw [if_neg (by simp [ofH, ho])] at e4
    subst e4
    have : i3 = i2 := by omega
    subst this
    rw [hx'] at hx2
    injection hx2 with hx2
    subst hx2
    exact (refEq_false.1 ho) ⟨hzb, hc'⟩
end Go.Proofs.Ytognmhgdegpdiaa
