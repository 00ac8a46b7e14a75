import Derived.Test.YtognmhgdegpdiaaSlotsPlFG
/- Handles against plain pools: End, in plain data: the items go one by one, then the heap. -/
namespace Go.Proofs.Ytognmhgdegpdiaa
open Go.RowKit
set_option linter.unusedVariables false
set_option linter.unusedSimpArgs false

theorem PInv.there_list {k : Nat} {X : PM} {i n : Nat} {x : Pl V3} {y : Pl Int} (h : PInv k X) (hx : X.sh.l[i]? = some x) (ht : x.taken = true) (hy : X.rh.l[i]? = some y) (hn : y.v = (n : Int)) :
    thereQ X (n : Int) (allTo X.ri.l X.ri.l.length) = listQ X.si (i : Int) x.gen (allTo X.si.l X.si.l.length) := by
  rw [h.simI.all]
  unfold thereQ listQ
  refine List.filter_congr fun r hr => ?_
  obtain ⟨j, hj⟩ := List.getElem?_of_mem hr
  obtain ⟨q, z, _, rfl, hz, hzt⟩ := allTo_get hj
  obtain ⟨yz, q2, a, hyz, hq2, hyt, hge, _, hin, _⟩ := h.item hz hzt
  obtain ⟨a', ha', hs⟩ := h.same hz hzt hyz hq2 hx ht hy
  rw [inIn_at hyz hq2 ha', inH_at hz, ← hs, hn]
  have : decide ((n : Int) < 0) = false := by simp
  rw [this, Bool.false_or]
/-- Where the items of a heap stand while they go. -/
def endS (X : PM) (T : List (Int × Int)) (j : Nat) : PSt V3 × (Int → Option (Int × Int)) := takeAll X.si X.f (T.take j)
theorem PInv.end_step {k : Nat} {X : PM} {a g : Int} {T : List (Int × Int)} {j : Nat} {r : Int × Int} {rj rj' : PSt Int} {u e : Int} (hT : T = listQ X.si a g (allTo X.si.l X.si.l.length)) (hr : T[j]? = some r)
    (h : PInv k { X with si := (endS X T j).1, f := (endS X T j).2, ri := rj }) (hw : rj.WF) (q : RGiveR rj r.1 r.2 u e rj') (ib : Value) :
    PInv k { X with si := (endS X T (j + 1)).1, f := (endS X T (j + 1)).2, ri := rj' } ∧ rj'.WF ∧ rj'.l.length = rj.l.length := by
  have hm := List.mem_of_getElem? hr
  rw [hT] at hm
  obtain ⟨i, x, rfl, hx, ho⟩ := listQ_in hm
  have hxt : x.taken = true := by unfold ofH at ho; rw [Bool.and_eq_true] at ho; exact ho.1
  have hsort : T.Pairwise (fun a b => a.1 < b.1) := by rw [hT]; exact listQ_sorted _ _ _ _
  have hpos : ∀ r, r ∈ T → 0 ≤ r.1 := by rw [hT]; exact listQ_pos
  have hj := (List.getElem?_eq_some_iff.1 hr).1
  have hnot : ¬ (i : Int) ∈ (T.take j).map (·.1) := by
    intro hm
    obtain ⟨r', hr', hri⟩ := List.mem_map.1 hm
    obtain ⟨j', hj'⟩ := List.getElem?_of_mem hr'
    have hlt : j' < j := by have := (List.getElem?_eq_some_iff.1 hj').1; rw [List.length_take] at this; omega
    rw [List.getElem?_take_of_lt hlt] at hj'
    obtain ⟨h1, h2⟩ := List.getElem?_eq_some_iff.1 hj'
    obtain ⟨h3, h4⟩ := List.getElem?_eq_some_iff.1 hr
    have := List.pairwise_iff_getElem.1 hsort j' j h1 h3 hlt
    rw [h2, h4] at this
    simp only at this
    omega
  have hxj : (endS X T j).1.l[i]? = some x := by
    unfold endS takeAll
    rw [takeFold_get i _ (X.si, X.f) (hsort.sublist (List.take_sublist _ _)) (fun r hr => hpos r (List.mem_of_mem_take hr)), if_neg hnot]
    exact hx
  have hstep : endS X T (j + 1) = ((endS X T j).1.giveAt i x ⟨0, 0, 0⟩, upd (endS X T j).2 x.v.a none) := by
    unfold endS takeAll
    rw [foldl_take_succ _ _ hr]
    have hts : ∀ st : PSt V3 × (Int → Option (Int × Int)), st.1.l[i]? = some x → takeStep st ((i : Int), x.gen) = (st.1.giveAt i x ⟨0, 0, 0⟩, upd st.2 x.v.a none) := fun st hst => by unfold takeStep; simp only [Int.toNat_natCast, hst]
    exact hts _ hxj
  obtain ⟨y, hy, e1, e2, _⟩ := h.simI.get (i := i) (x := x) hxj
  have hyt := e2.symm.trans hxt
  have hg1 : 1 ≤ y.gen := by have := (h.gens i x hxj).1; rw [← e1]; exact this
  rcases q with ⟨h1, h2, _⟩ | ⟨i', y', hi, hgy, hy', _, _, _, _, rfl⟩
  · simp only at h2
    rw [e1] at h2
    exact absurd (h2.symm.trans (look_ok hy hyt hg1)) h1
  · simp only at hi hgy
    obtain rfl : i = i' := by omega
    simp only at hy
    rw [hy] at hy'
    injection hy' with hy'
    subst hy'
    have hres := h.take (j := i) (x := x) (y := y) hxj hxt hy X.fi ib
    refine ⟨hres.vals ?_, hw.giveAt y.v hy hyt, by simp [PSt.giveAt]⟩
    rw [hstep]
theorem PInv.end_last {k : Nat} {X : PM} {i : Nat} {x : Pl V3} {y : Pl Int} {T : List (Int × Int)} {re : PSt Int} (h0 : PInv k X) (hT : T = listQ X.si (i : Int) x.gen (allTo X.si.l X.si.l.length)) (hx : X.sh.l[i]? = some x) (ht : x.taken = true) (hy : X.rh.l[i]? = some y)
    (h : PInv k { X with si := (takeAll X.si X.f T).1, f := (takeAll X.si X.f T).2, ri := re }) : PInv k { X with sh := X.sh.giveAt i x ⟨0, 0, 0⟩, rh := X.rh.giveAt i y y.v, si := (takeAll X.si X.f T).1, f := (takeAll X.si X.f T).2, ri := re } := by
  refine (h.drop (i := i) (x := x) (y := y) hx hy (fun j z hz hzt hzb => ?_) X.fh X.hb).vals rfl
  simp only at hz
  rw [hT, takeAll_get] at hz
  cases hq : X.si.l[j]? with
  | none => rw [hq] at hz; cases hz
  | some z' =>
    rw [hq] at hz
    simp only [Option.map_some, Option.some.injEq] at hz
    by_cases ho : ofH (i : Int) x.gen z' = true
    · rw [if_pos ho] at hz
      subst hz
      cases hzt
    · rw [if_neg ho] at hz
      subst hz
      obtain ⟨yz, hyz, _⟩ := h0.simI.get hq
      obtain ⟨i2, x', y', q, hx', hy', ht', hb', hc', _⟩ := h0.own j z' yz hq hyz hzt
      have : i2 = i := by omega
      subst this
      rw [hx] at hx'
      injection hx' with hx'
      subst hx'
      exact ho (by simp [ofH, hzt, refEq_true, hzb, hc'])
/-- End, whatever it answers. -/
theorem PInv.end_ {k : Nat} {X : PM} {a g u e e0 : Int} {sh' si' : PSt V3} {f' : Int → Option (Int × Int)} (h : PInv k X) (q0 : GetR 0 X.rh a g u e) (q1 : EndR X.sh X.si X.f a g e0 sh' si' f') :
    e0 = e ∧ (e ≠ 0 → sh' = X.sh ∧ si' = X.si ∧ f' = X.f) ∧ (e = 0 → ∃ (n : Nat) (T : List (Int × Int)), u = (n : Int) ∧ thereQ X (n : Int) (allTo X.ri.l X.ri.l.length) = T ∧ T = listQ X.si a g (allTo X.si.l X.si.l.length) ∧ si' = (takeAll X.si X.f T).1 ∧ f' = (takeAll X.si X.f T).2 ∧
      ∀ re u3 e3 r' , PInv k { X with si := si', f := f', ri := re } → RGiveR X.rh a g u3 e3 r' → PInv k { X with sh := sh', rh := r', si := si', f := f', ri := re }) := by
  have l1 := h.look_eq q0
  rcases q1 with ⟨h1, h2, h3, h4, h5⟩ | ⟨i, x, rfl, rfl, hx, ht, hg, rfl, rfl, hst⟩
  · have he : e0 = e := h2.symm.trans l1
    exact ⟨he, fun _ => ⟨h3, h4, h5⟩, fun e1 => absurd (he.trans e1) h1⟩
  · have he : (0 : Int) = e := by rw [← l1, look_ok hx ht hg]
    refine ⟨he, fun h1 => absurd he.symm h1, fun _ => ?_⟩
    subst he
    obtain ⟨i', n, x', y, hi, _, hx', _, _, hy, hn, hu, _, _⟩ := h.heap_at q0
    obtain rfl : i = i' := by omega
    rw [hx] at hx'
    injection hx' with hx'
    subst hx'
    have e1 : si' = (takeAll X.si X.f (listQ X.si (i : Int) x.gen (allTo X.si.l X.si.l.length))).1 := congrArg Prod.fst hst
    have e2 : f' = (takeAll X.si X.f (listQ X.si (i : Int) x.gen (allTo X.si.l X.si.l.length))).2 := congrArg Prod.snd hst
    refine ⟨n, _, hu, h.there_list hx ht hy hn, rfl, e1, e2, fun re u3 e3 r' hp hr => ?_⟩
    subst e1 e2
    rcases hr with ⟨h5, h6, _⟩ | ⟨j, z, hj, _, hz, _, _, _, _, rfl⟩
    · exact absurd (h6.symm.trans ((h.simH.look _ _).trans (look_ok hx ht hg))) h5
    · obtain rfl : i = j := by omega
      rw [hy] at hz
      injection hz with hz
      subst hz
      exact h.end_last rfl hx ht hy hp
end Go.Proofs.Ytognmhgdegpdiaa
