import Derived.Test.YtognmhgdegpdiaaGreatBase
import Derived.Test.YtognmhgdegpdiaaGreatRows
import Derived.ProofKit
import Derived.OpenShut
import Derived.ChangeSame
import Derived.Carry
import Derived.Deep.Slices
import Derived.WideKeyArgs
/- The last step of a row: from what a walk says of the world to what the statement says. -/
namespace Go.Proofs.YtognmhgdegpdiaaGreat
open Go.ChangeShapes Go.WideShapes Go.ChangeAt Go.RowKit
theorem own : ownKnob Tryz.prog.godebug = none := by kernel_rfl
theorem laidOut : laidOutB Tryz.prog = true := by kernel_rfl
section
variable {H : Type} {enc : TypeId × Value → H} {P : Program}
theorem post_of_below {f : Func} {s : ChangeSpec} {apart fresh handsOn again : Bool} {W W' : World} {args : Array Value} {v : Value} {ds gs : List (DataW H)} {before pa pv : List MemPlace}
    (hW : DataW.Whole enc P f.params.toList s.vars apart W args.toList ds gs before)
    (hres : ∀ (b : Nat) (sp : Nat → Bool) (hd : Bool), DataW.TrodAll enc P W' b sp hd f.resultTypes.toList (v.resultList f.resultTypes.size) (s.fn H (ds ++ gs)).results [])
    (hargs : ∀ sp : Nat → Bool, (∀ p ∈ before, sp p.block = true) → DataW.TrodAll enc P W' 0 sp true f.params.toList args.toList (s.fn H (ds ++ gs)).args pa)
    (hvars : ∀ sp : Nat → Bool, (∀ p ∈ before, sp p.block = true) → DataW.TrodVars enc P W' sp s.vars (s.fn H (ds ++ gs)).vars pv)
    (hps : before = pa ++ pv) (hb : Below W.heap.size W W')
    (hok : ∀ (j : Nat) (t : TypeId) (r : Value), f.resultTypes[j]? = some t → (v.resultList f.resultTypes.size)[j]? = some r → Value.okWide P W' .any 0 t r) :
    s.post enc P f apart fresh handsOn again W args v W' := by
  have hlt : ∀ p ∈ before, p.block < W.heap.size := fun p hp => hW.lt p hp
  have hold : ∀ p ∈ before, (fun b => decide (b < W.heap.size)) p.block = true := fun p hp => by simpa using hlt p hp
  refine ⟨ds, gs, before, [], pa, pv, hW, hres _ _ _, hargs _ hold, hvars _ hold, World.keptBut_mono (fun p hp => ⟨hp, ?_⟩) (hb.frame (· ∈ before)), fun _ => ?_⟩
  · rw [hps, List.mem_append] at hp
    exact Or.inr hp
  · obtain ⟨_, _, _, _, _, hz, hn⟩ := hW
    refine ⟨hok, _, _, ([] ++ pa) ++ pv, ⟨[] ++ pa, pv, trodAll_append (hargs _ (fun _ _ => rfl)) (hres _ _ _), hvars _ (fun _ _ => rfl), rfl, ?_, ?_⟩, ?_⟩
    · intro b off hp
      have hin : MemPlace.cell b off ∈ before := by rw [hps]; simpa using hp
      rw [hb.frozen (hlt _ hin)]
      exact hz b off hin
    · intro ha
      have := hn ha
      rw [hps] at this
      simpa using this
    · intro p hp _
      rw [hps]
      simpa using hp
end
section
variable {H : Type} {enc : TypeId × Value → H} {P : Program}
theorem trodAll_stays (hl : laidOutB P = true) {W W' : World} {sp : Nat → Bool} : ∀ {ts : List TypeId} {vs : List Value} {ds : List (DataW H)} {ps : List MemPlace},
    (∀ t ∈ ts, P.readableRec t = true ∧ t < P.types.size) → DataW.TrodAll enc P W 0 (fun _ => true) true ts vs ds ps → (∀ p ∈ ps, W.sameAt W' p) → (∀ p ∈ ps, sp p.block = true) → DataW.TrodAll enc P W' 0 sp true ts vs ds ps
  | [], [], [], _, _, h, _, _ => h
  | t :: ts, v :: vs, d :: ds, ps, ht, h, hs, hp => by
    obtain ⟨p, q, h1, h2, rfl⟩ := h
    exact ⟨p, q, WideElems.Trod_stays hl (ht t (by simp)).1 (ht t (by simp)).2 h1 (fun x hx => hs x (by simp [hx])) (fun x hx => hp x (by simp [hx])),
      trodAll_stays hl (fun x hx => ht x (by simp [hx])) h2 (fun x hx => hs x (by simp [hx])) (fun x hx => hp x (by simp [hx])), rfl⟩
  | [], [], _ :: _, _, _, h, _, _ => h.elim
  | [], _ :: _, _, _, _, h, _, _ => h.elim
  | _ :: _, [], _, _, _, h, _, _ => h.elim
  | _ :: _, _ :: _, [], _, _, h, _, _ => h.elim
theorem post_law (hl : laidOutB P = true) {F : Func} {s : ChangeSpec} {tb : TypeId} {W W' : World} {args : Array Value} {ds : List (DataW H)} {before : List MemPlace}
    (hW : DataW.Whole enc P F.params.toList s.vars false W args.toList ds [] before) (hvars : s.vars = []) (hres : (s.fn H (ds ++ [])).results = [.lit (.bool true)]) (hargs : (s.fn H (ds ++ [])).args = ds)
    (hv : (s.fn H (ds ++ [])).vars = []) (hrt : F.resultTypes = #[tb]) (htb : P.underlying tb = some .bool) (htypes : ∀ t ∈ F.params.toList, P.readableRec t = true ∧ t < P.types.size)
    (hok : Value.okWide P W' .any 0 tb (.bool true)) (hb : Below W.heap.size W W') : s.post enc P F false true false false W args (.bool true) W' := by
  have hW2 := hW
  obtain ⟨p, q, hA, hV, hbef, hfz, hnd⟩ := hW2
  rw [hvars] at hV
  obtain ⟨_, rfl⟩ := trodVars_none hV
  rw [List.append_nil] at hbef
  subst hbef
  refine post_of_below (pa := before) (pv := []) hW (fun b sp hd => ?_) (fun sp hsp => ?_) (fun _ _ => ?_) (by simp) hb (fun j t r hj hr => ?_)
  · rw [hres, hrt]
    exact trodAll_cons_mk (shut_bool htb _) trodAll_mk0
  · rw [hargs]
    exact trodAll_stays hl htypes hA (fun x hx => hb.same (hW.lt x hx)) hsp
  · rw [hvars, hv]
    rfl
  · rw [hrt] at hj hr
    match j, hj, hr with
    | 0, hj, hr =>
      simp at hj
      simp [Value.resultList] at hr
      subst hj hr
      exact hok
theorem open_sl {t e : TypeId} {sz : Nat} {W : World} {v : Value} {d : DataW H} {ps : List MemPlace} {r : Reach} {b0 : Nat} (ht : P.underlying t = some (.slice e)) (hsz : P.cellsOf e = sz) (hsz0 : 0 < sz) (good : List Value → Prop)
    (hgood : ∀ n cs y, DataW.trod enc P W 0 (fun _ => true) true n e cs = some y → good cs) (hv : Value.okWide P W r b0 t v) (h : DataW.Trod enc P W 0 (fun _ => true) true t v d ps) (hlt : ∀ x ∈ ps, x.block < W.heap.size) :
    ∃ (A : Option Addr) (n c : Nat) (V : Nat → Value), v = .slice A n c ∧ n ≤ 9223372036854775807 ∧ SlArg W W.heap.size A n sz V ∧ ∀ i, i < n → good ((List.range sz).map fun j => V (i * sz + j)) := by
  obtain ⟨A, n, c, rfl⟩ := okWide_slice ht hv
  obtain ⟨fuel, hf⟩ := h
  rcases Go.Deep.open_slice ht hf with ⟨hcs, _⟩ | ⟨a, len, cap, m, k, D, Pl, hcs, _, hl, hm, hmm, hx, hel⟩
  · simp [Value.cells] at hcs
    obtain ⟨rfl, rfl, rfl⟩ := hcs
    exact ⟨none, 0, 0, fun _ => undef, rfl, by omega, fun h => absurd h (by omega), fun i hi => absurd hi (by omega)⟩
  · simp [Value.cells] at hcs
    obtain ⟨rfl, rfl, rfl⟩ := hcs
    rw [if_pos rfl] at hmm
    rw [hsz] at hx hel
    have hcell : ∀ i, i < n → ∀ j, j < sz → ∃ u, W.cell? (a.add (i * sz + j)) = some u := by
      intro i hi j hj
      obtain ⟨cs', hc, _⟩ := hel i (by omega)
      obtain ⟨_, hlen, hat⟩ := World.cells?_some hc
      refine ⟨cs'[j]'(by omega), ?_⟩
      rw [← add_of_add, hat j hj]
      exact List.getElem?_eq_getElem (by omega)
    refine ⟨some a, n, c, fun j => (W.cell? (a.add j)).getD undef, rfl, by simp only [Go.maxLen] at hm; omega, ?_, ?_⟩
    · intro hn
      obtain ⟨u, hu⟩ := hcell 0 hn 0 hsz0
      have h00 : (a.add (0 * sz + 0)) = a := by simp [Addr.add]
      rw [h00] at hu
      obtain ⟨b, off, spot⟩ := a
      have hspot : spot = none := by
        cases spot with
        | none => rfl
        | some s => simp [World.cell?] at hu; split at hu <;> simp at hu
      subst hspot
      refine ⟨b, off, rfl, ?_, fun j hj => ?_⟩
      · have : MemPlace.cell b (off + 0) ∈ ps := by
          have := congrArg Prod.snd hx
          simp only at this
          rw [this]
          refine List.mem_append.2 (.inl ?_)
          unfold MemPlace.row
          exact List.mem_map.2 ⟨0, by simp; exact Nat.mul_pos (by omega) hsz0, rfl⟩
        exact hlt _ this
      · have hi : j / sz < n := Nat.div_lt_of_lt_mul (by rw [Nat.mul_comm]; exact hj)
        obtain ⟨u, hu⟩ := hcell (j / sz) hi (j % sz) (Nat.mod_lt _ hsz0)
        have e1 : j / sz * sz + j % sz = j := by rw [Nat.mul_comm]; exact Nat.div_add_mod j sz
        rw [e1] at hu
        have e2 : (⟨b, off, none⟩ : Addr).add j = ⟨b, off + j, none⟩ := by unfold Addr.add; split <;> simp_all
        show _ = some ((W.cell? ((⟨b, off, none⟩ : Addr).add j)).getD undef)
        rw [e2] at hu ⊢
        rw [hu]
        rfl
    · intro i hi
      obtain ⟨cs', hc, ht'⟩ := hel i (by omega)
      obtain ⟨_, hlen, hat⟩ := World.cells?_some hc
      have : cs' = (List.range sz).map fun j => (W.cell? (a.add (i * sz + j))).getD undef := by
        apply List.ext_getElem?
        intro j
        by_cases hj : j < sz
        · rw [← hat j hj, add_of_add]
          obtain ⟨u, hu⟩ := hcell i hi j hj
          simp [hj, hu]
        · rw [List.getElem?_eq_none (by omega), List.getElem?_eq_none (by simp; omega)]
      rw [← this]
      exact hgood _ _ _ ht'
def IntCells (k : Nat) (cs : List Value) : Prop := ∃ xs : List Int, cs = xs.map (.int .i64) ∧ xs.length = k ∧ ∀ x ∈ xs, -9223372036854775808 ≤ x ∧ x ≤ 9223372036854775807
theorem intCells_int {W : World} {base : Nat} {spare : Nat → Bool} {held : Bool} {e : TypeId} (he : P.underlying e = some (.int .i64)) : ∀ n cs y, DataW.trod enc P W base spare held n e cs = some y → IntCells 1 cs := by
  intro n cs y h
  obtain ⟨x, rfl, _, hwf⟩ := DataW.trod_int he h
  exact ⟨[x], rfl, rfl, by have := bounds_i64 hwf; simpa using ⟨by omega, by omega⟩⟩
theorem IntCells.at {k : Nat} {V : Nat → Value} {i : Nat} (h : IntCells k ((List.range k).map fun j => V (i * k + j))) (j : Nat) (hj : j < k) : V (i * k + j) = .int .i64 (intOf (V (i * k + j))) ∧ -9223372036854775808 ≤ intOf (V (i * k + j)) ∧ intOf (V (i * k + j)) ≤ 9223372036854775807 := by
  obtain ⟨xs, h1, h2, h3⟩ := h
  have hj2 : j < xs.length := by omega
  have h4 := congrArg (·[j]?) h1
  simp only [List.getElem?_map, List.getElem?_range hj, List.getElem?_eq_getElem hj2, Option.map_some, Option.some.injEq] at h4
  rw [h4]
  exact ⟨rfl, h3 _ (List.getElem_mem _)⟩
theorem open_sl_ints {t e : TypeId} {sz : Nat} {W : World} {v : Value} {d : DataW H} {ps : List MemPlace} {r : Reach} {b0 : Nat} (ht : P.underlying t = some (.slice e)) (hsz : P.cellsOf e = sz) (hsz0 : 0 < sz)
    (hgood : ∀ n cs y, DataW.trod enc P W 0 (fun _ => true) true n e cs = some y → IntCells sz cs) (hv : Value.okWide P W r b0 t v) (h : DataW.Trod enc P W 0 (fun _ => true) true t v d ps) (hlt : ∀ x ∈ ps, x.block < W.heap.size) :
    ∃ (A : Option Addr) (n c : Nat) (G : Nat → Int), v = .slice A n c ∧ n ≤ 9223372036854775807 ∧ SlArg W W.heap.size A n sz (fun j => .int .i64 (G j)) ∧ ∀ j, j < n * sz → -9223372036854775808 ≤ G j ∧ G j ≤ 9223372036854775807 := by
  obtain ⟨A, n, c, V, rfl, hn, hS, hg⟩ := open_sl ht hsz hsz0 (IntCells sz) hgood hv h hlt
  have hall : ∀ j, j < n * sz → V j = .int .i64 (intOf (V j)) ∧ -9223372036854775808 ≤ intOf (V j) ∧ intOf (V j) ≤ 9223372036854775807 := by
    intro j hj
    have hi : j / sz < n := Nat.div_lt_of_lt_mul (by rw [Nat.mul_comm]; exact hj)
    have e1 : j / sz * sz + j % sz = j := by rw [Nat.mul_comm]; exact Nat.div_add_mod j sz
    have := (hg (j / sz) hi).at (j % sz) (Nat.mod_lt _ hsz0)
    rwa [e1] at this
  refine ⟨A, n, c, fun j => intOf (V j), rfl, hn, fun h0 => ?_, fun j hj => (hall j hj).2⟩
  obtain ⟨b, off, e, hb, hc⟩ := hS h0
  exact ⟨b, off, e, hb, fun j hj => (hc j hj).trans (congrArg some (hall j hj).1)⟩
end
end Go.Proofs.YtognmhgdegpdiaaGreat
