import Derived.Test.YtognmhgdegpdiaaGreatTopLP
import Derived.Lib.SliceRun
import Derived.Test.YtognmhgdegpdiaaGreatLedEffs
section
/- Rings of cells; Fibonacci heaps, the simple ones of their functions. -/
namespace Go.Proofs.YtognmhgdegpdiaaGreat
open Go.RowKit
set_option linter.unusedVariables false
set_option linter.unusedSimpArgs false
set_option maxRecDepth 100000
def Ar.clink (s : Ar) (c d : Int) : Ar := (s.put c 3 d).put d 2 c
def Ar.cput (s : Ar) (c d : Int) : Ar := (s.clink c d).clink d (s.cell c 3)
def Ar.cjoin (s : Ar) (c d : Int) : Ar := (s.clink c d).clink (s.cell d 2) (s.cell c 3)
def Ar.cout (s : Ar) (c : Int) : Int × Ar := if s.cell c 3 = c then (-1, s) else (s.cell c 3, (s.clink (s.cell c 2) (s.cell c 3)).clink c c)
def Ar.ringL (s : Ar) (c : Int) : Nat → Int → List Int
  | 0, _ => []
  | f + 1, d => if d ≠ c ∧ s.has d = true then d :: s.ringL c f (s.cell d 3) else []
def Ar.ring (s : Ar) (c : Int) : List Int := if s.has c then c :: s.ringL c (s.n - 1) (s.cell c 3) else []
theorem Ar.ringL_le (s : Ar) (c : Int) : ∀ (f : Nat) (d : Int), (s.ringL c f d).length ≤ f
  | 0, _ => by simp [Ar.ringL]
  | f + 1, d => by
    unfold Ar.ringL
    split
    · have := Ar.ringL_le s c f (s.cell d 3); simp; omega
    · simp
theorem Ar.ring_le (s : Ar) (c : Int) (h : 1 ≤ s.n) : (s.ring c).length ≤ s.n := by
  unfold Ar.ring
  split
  · have := Ar.ringL_le s c (s.n - 1) (s.cell c 3); simp; omega
  · simp
theorem Ar.clink_n (s : Ar) (c d : Int) : (s.clink c d).n = s.n := by simp [Ar.clink, Ar.put_n]
theorem Ar.cout_n (s : Ar) (c : Int) : (s.cout c).2.n = s.n := by unfold Ar.cout; split <;> simp [Ar.clink_n]
theorem Ar.Ok.clink {s : Ar} (h : s.Ok) (c d : Int) : (s.clink c d).Ok := (h.put _ _ _).put _ _ _
theorem Ar.Ok.cput {s : Ar} (h : s.Ok) (c d : Int) : (s.cput c d).Ok := (h.clink _ _).clink _ _
theorem Ar.Ok.cout {s : Ar} (h : s.Ok) (c : Int) : (s.cout c).2.Ok := by unfold Ar.cout; split <;> simp only <;> first | exact h | exact (h.clink _ _).clink _ _
def Ar.flesser (s : Ar) (r n : Int) : Int := if s.nbefore n r then n else r
def Ar.funder (s : Ar) (n up : Int) : Ar := ((if (s.clink n n).cell up 1 = -1 then (s.clink n n).put up 1 n else (s.clink n n).cput ((s.clink n n).cell up 1) n).put n 0 up).put n 5 0
theorem Ar.Ok.funder {s : Ar} (h : s.Ok) (n up : Int) : (s.funder n up).Ok := by
  unfold Ar.funder
  split
  · exact (((h.clink n n).put _ _ _).put _ _ _).put _ _ _
  · exact (((h.clink n n).cput _ _).put _ _ _).put _ _ _
def Ar.fpush (s : Ar) (r i : Int) : Ar × Int := if r = -1 then ((s.newNode i).clink s.take.1 s.take.1, s.take.1) else (((s.newNode i).clink s.take.1 s.take.1).cput r s.take.1, (((s.newNode i).clink s.take.1 s.take.1).cput r s.take.1).flesser r s.take.1)
def Ar.fmeld (s : Ar) (r q : Int) : Ar × Int := if r = -1 then (s, q) else if q = -1 ∨ r = q then (s, r) else (s.cjoin r q, (s.cjoin r q).flesser r q)
section
variable {B : Nat} {w0 w : World} {C : List Ent} {vf : Value} (X : ArM) (s : Ar) (t : Nat)
theorem ch_link (c d : Int) (h : Led B w0 w (X.es vf (s.tick t) ++ C)) :
    Calls Tryz.prog 189 #[.pointer (some ⟨X.p, 0, none⟩), .int .i64 c, .int .i64 d] w fun e w' => e = .returned (.tuple #[]) ∧ Led B w0 w' (X.es vf ((s.clink c d).tick (t + 2)) ++ C) := by
  have H := Lib.hid h
  clear h
  refine callsR fun R hR => ?_
  go_enter Tryz.func189, Tryz.ntmps189
  go_wp2_with (first | (go_at_call 89; refine Calls.mono (t_set _ _ _ _ _ _ (by decide) H.out) ?_; rintro e w' ⟨rfl, h'⟩; replace H := Lib.hid h'; clear h'))
  refine bodyPost_end (results_none rfl _ _ _) rfl (hR.out _ _ ⟨rfl, H.out⟩)
theorem ch_one (c : Int) (h : Led B w0 w (X.es vf (s.tick t) ++ C)) :
    Calls Tryz.prog 147 #[.pointer (some ⟨X.p, 0, none⟩), .int .i64 c] w fun e w' => e = .returned (.tuple #[]) ∧ Led B w0 w' (X.es vf ((s.clink c c).tick (t + 2)) ++ C) := by
  have H := Lib.hid h
  clear h
  refine callsR fun R hR => ?_
  go_enter Tryz.func147, Tryz.ntmps147
  go_wp2_with (first | (go_at_call 189; refine Calls.mono (ch_link _ _ _ _ _ H.out) ?_; rintro e w' ⟨rfl, h'⟩; replace H := Lib.hid h'; clear h'))
  refine bodyPost_end (results_none rfl _ _ _) rfl (hR.out _ _ ⟨rfl, H.out⟩)
theorem ch_put (c d : Int) (h : Led B w0 w (X.es vf (s.tick t) ++ C)) :
    Calls Tryz.prog 148 #[.pointer (some ⟨X.p, 0, none⟩), .int .i64 c, .int .i64 d] w fun e w' => e = .returned (.tuple #[]) ∧ Led B w0 w' (X.es vf ((s.cput c d).tick (t + 5)) ++ C) := by
  have H := Lib.hid h
  clear h
  refine callsR fun R hR => ?_
  go_enter Tryz.func148, Tryz.ntmps148
  go_wp2_with (first | (go_at_call 151; refine Calls.mono (t_cell _ _ _ _ _ (by decide) H.out) ?_; rintro e w' ⟨rfl, h'⟩; replace H := Lib.hid h'; clear h') | (go_at_call 189; refine Calls.mono (ch_link _ _ _ _ _ H.out) ?_; rintro e w' ⟨rfl, h'⟩; replace H := Lib.hid h'; clear h'))
  refine bodyPost_end (results_none rfl _ _ _) rfl (hR.out _ _ ⟨rfl, H.out⟩)
theorem ch_out (c : Int) (h : Led B w0 w (X.es vf (s.tick t) ++ C)) :
    Calls Tryz.prog 195 #[.pointer (some ⟨X.p, 0, none⟩), .int .i64 c] w fun e w' => ∃ u, u ≤ 6 ∧ e = .returned (.int .i64 (s.cout c).1) ∧ Led B w0 w' (X.es vf (((s.cout c).2).tick (t + u)) ++ C) := by
  have H := Lib.hid h
  clear h
  by_cases h1 : s.cell c 3 = c
  · have hv : s.cout c = (-1, s) := by rw [Ar.cout, if_pos h1]
    have g1 : (s.cell c 3 == c) = true := by simpa using h1
    clear h1
    refine callsR fun R hR => ?_
    go_enter Tryz.func195, Tryz.ntmps195
    go_wp2_with (first | (go_at_call 151; refine Calls.mono (t_cell _ _ _ _ _ (by decide) H.out) ?_; rintro e w' ⟨rfl, h'⟩; replace H := Lib.hid h'; clear h') | (go_at_call 189; refine Calls.mono (ch_link _ _ _ _ _ H.out) ?_; rintro e w' ⟨rfl, h'⟩; replace H := Lib.hid h'; clear h'))
    obtain ⟨u9, hu9, h9⟩ := tick_up (t := t) (N := 6) H.out (by omega) (by omega)
    exact hR.out _ _ ⟨u9, hu9, by rw [hv] <;> rfl, by rw [hv]; exact h9⟩
  · have hv : s.cout c = (s.cell c 3, (s.clink (s.cell c 2) (s.cell c 3)).clink c c) := by rw [Ar.cout, if_neg h1]
    have g1 : (s.cell c 3 == c) = false := by simpa using h1
    clear h1
    refine callsR fun R hR => ?_
    go_enter Tryz.func195, Tryz.ntmps195
    go_wp2_with (first | (go_at_call 151; refine Calls.mono (t_cell _ _ _ _ _ (by decide) H.out) ?_; rintro e w' ⟨rfl, h'⟩; replace H := Lib.hid h'; clear h') | (go_at_call 189; refine Calls.mono (ch_link _ _ _ _ _ H.out) ?_; rintro e w' ⟨rfl, h'⟩; replace H := Lib.hid h'; clear h'))
    obtain ⟨u9, hu9, h9⟩ := tick_up (t := t) (N := 6) H.out (by omega) (by omega)
    exact hR.out _ _ ⟨u9, hu9, by rw [hv] <;> rfl, by rw [hv]; exact h9⟩
theorem fb_lesser (r n : Int) (h : Led B w0 w (X.es vf (s.tick t) ++ C)) :
    Calls Tryz.prog 149 #[.pointer (some ⟨X.p, 0, none⟩), .int .i64 r, .int .i64 n] w fun e w' => e = .returned (.int .i64 (s.flesser r n)) ∧ Led B w0 w' (X.es vf (s.tick (t + 6)) ++ C) := by
  have H := Lib.hid h
  clear h
  have hv : s.flesser r n = if s.nbefore n r then n else r := rfl
  cases g1 : s.nbefore n r
  all_goals
    rw [g1] at hv
    refine callsR fun R hR => ?_
    go_enter Tryz.func149, Tryz.ntmps149
    go_wp2_with (first | (go_at_call 164; refine Calls.mono (node_before _ _ _ _ _ H.out) ?_; rintro e w' ⟨rfl, h'⟩; replace H := Lib.hid h'; clear h'; rw [g1]))
    exact hR.out _ _ ⟨by rw [hv] <;> rfl, H.out⟩
theorem fb_under (n up : Int) (h : Led B w0 w (X.es vf (s.tick t) ++ C)) :
    Calls Tryz.prog 220 #[.pointer (some ⟨X.p, 0, none⟩), .int .i64 n, .int .i64 up] w fun e w' => ∃ u, u ≤ 10 ∧ e = .returned (.tuple #[]) ∧ Led B w0 w' (X.es vf ((s.funder n up).tick (t + u)) ++ C) := by
  have H := Lib.hid h
  clear h
  by_cases h1 : (s.clink n n).cell up 1 = -1
  · have hv : s.funder n up = (((s.clink n n).put up 1 n).put n 0 up).put n 5 0 := by rw [Ar.funder, if_pos h1]
    have g1 : ((s.clink n n).cell up 1 == -1) = true := by simpa using h1
    clear h1
    refine callsR fun R hR => ?_
    go_enter Tryz.func220, Tryz.ntmps220
    go_wp2_with (first | (go_at_call 147; refine Calls.mono (ch_one _ _ _ _ H.out) ?_; rintro e w' ⟨rfl, h'⟩; replace H := Lib.hid h'; clear h') | (go_at_call 151; refine Calls.mono (t_cell _ _ _ _ _ (by decide) H.out) ?_; rintro e w' ⟨rfl, h'⟩; replace H := Lib.hid h'; clear h') | (go_at_call 148; refine Calls.mono (ch_put _ _ _ _ _ H.out) ?_; rintro e w' ⟨rfl, h'⟩; replace H := Lib.hid h'; clear h') | (go_at_call 89; refine Calls.mono (t_set _ _ _ _ _ _ (by decide) H.out) ?_; rintro e w' ⟨rfl, h'⟩; replace H := Lib.hid h'; clear h'))
    obtain ⟨u9, hu9, h9⟩ := tick_up (t := t) (N := 10) H.out (by omega) (by omega)
    exact bodyPost_end (results_none rfl _ _ _) rfl (hR.out _ _ ⟨u9, hu9, rfl, by rw [hv]; exact h9⟩)
  · have hv : s.funder n up = (((s.clink n n).cput ((s.clink n n).cell up 1) n).put n 0 up).put n 5 0 := by rw [Ar.funder, if_neg h1]
    have g1 : ((s.clink n n).cell up 1 == -1) = false := by simpa using h1
    clear h1
    refine callsR fun R hR => ?_
    go_enter Tryz.func220, Tryz.ntmps220
    go_wp2_with (first | (go_at_call 147; refine Calls.mono (ch_one _ _ _ _ H.out) ?_; rintro e w' ⟨rfl, h'⟩; replace H := Lib.hid h'; clear h') | (go_at_call 151; refine Calls.mono (t_cell _ _ _ _ _ (by decide) H.out) ?_; rintro e w' ⟨rfl, h'⟩; replace H := Lib.hid h'; clear h') | (go_at_call 148; refine Calls.mono (ch_put _ _ _ _ _ H.out) ?_; rintro e w' ⟨rfl, h'⟩; replace H := Lib.hid h'; clear h') | (go_at_call 89; refine Calls.mono (t_set _ _ _ _ _ _ (by decide) H.out) ?_; rintro e w' ⟨rfl, h'⟩; replace H := Lib.hid h'; clear h'))
    obtain ⟨u9, hu9, h9⟩ := tick_up (t := t) (N := 10) H.out (by omega) (by omega)
    exact bodyPost_end (results_none rfl _ _ _) rfl (hR.out _ _ ⟨u9, hu9, rfl, by rw [hv]; exact h9⟩)
theorem fb_min (r : Int) (h : Led B w0 w (X.es vf (s.tick t) ++ C)) :
    Calls Tryz.prog 101 #[.pointer (some ⟨X.p, 0, none⟩), .int .i64 r] w fun e w' => e = .returned (.int .i64 (s.cell r 6)) ∧ Led B w0 w' (X.es vf (s.tick (t + 1)) ++ C) := by
  have H := Lib.hid h
  clear h
  refine callsR fun R hR => ?_
  go_enter Tryz.func101, Tryz.ntmps101
  go_wp2_with (first | (go_at_call 151; refine Calls.mono (t_cell _ _ _ _ _ (by decide) H.out) ?_; rintro e w' ⟨rfl, h'⟩; replace H := Lib.hid h'; clear h'))
  exact hR.out _ _ ⟨rfl, H.out⟩
theorem fb_push (r i : Int) (hok : s.Ok) (hr : s.take.2.1 = true) (h : Led B w0 w (X.es vf (s.tick t) ++ C)) :
    Calls Tryz.prog 93 #[.pointer (some ⟨X.p, 0, none⟩), .int .i64 r, .int .i64 i] w fun e w' => ∃ vf2 u, u ≤ 16 ∧ e = .returned (.tuple #[.int .i64 (s.fpush r i).2, .bool true]) ∧ Led B w0 w' (X.es vf2 (((s.fpush r i).1).tick (t + u)) ++ C) := by
  have H := Lib.hid h
  clear h
  have HOK := Lib.hid hok
  clear hok
  by_cases h1 : r = -1
  · have hv : s.fpush r i = ((s.newNode i).clink s.take.1 s.take.1, s.take.1) := by rw [Ar.fpush, if_pos h1]
    subst h1
    refine callsR fun R hR => ?_
    go_enter Tryz.func93, Tryz.ntmps93
    go_wp2_with (first | (go_at_call 142; refine Calls.mono (node_new _ _ _ _ HOK.out hr H.out) ?_; rintro e w' ⟨vf1, rfl, h'⟩; replace H := Lib.hid h'; clear h') | (go_at_call 147; refine Calls.mono (ch_one _ _ _ _ H.out) ?_; rintro e w' ⟨rfl, h'⟩; replace H := Lib.hid h'; clear h') | (go_at_call 148; refine Calls.mono (ch_put _ _ _ _ _ H.out) ?_; rintro e w' ⟨rfl, h'⟩; replace H := Lib.hid h'; clear h') | (go_at_call 149; refine Calls.mono (fb_lesser _ _ _ _ _ H.out) ?_; rintro e w' ⟨rfl, h'⟩; replace H := Lib.hid h'; clear h'))
    obtain ⟨u9, hu9, h9⟩ := tick_up (t := t) (N := 16) H.out (by omega) (by omega)
    exact hR.out _ _ ⟨_, u9, hu9, by rw [hv] <;> rfl, by rw [hv]; exact h9⟩
  · have hv : s.fpush r i = (((s.newNode i).clink s.take.1 s.take.1).cput r s.take.1, (((s.newNode i).clink s.take.1 s.take.1).cput r s.take.1).flesser r s.take.1) := by rw [Ar.fpush, if_neg h1]
    have g1 : (r == -1) = false := by simpa using h1
    clear h1
    refine callsR fun R hR => ?_
    go_enter Tryz.func93, Tryz.ntmps93
    go_wp2_with (first | (go_at_call 142; refine Calls.mono (node_new _ _ _ _ HOK.out hr H.out) ?_; rintro e w' ⟨vf1, rfl, h'⟩; replace H := Lib.hid h'; clear h') | (go_at_call 147; refine Calls.mono (ch_one _ _ _ _ H.out) ?_; rintro e w' ⟨rfl, h'⟩; replace H := Lib.hid h'; clear h') | (go_at_call 148; refine Calls.mono (ch_put _ _ _ _ _ H.out) ?_; rintro e w' ⟨rfl, h'⟩; replace H := Lib.hid h'; clear h') | (go_at_call 149; refine Calls.mono (fb_lesser _ _ _ _ _ H.out) ?_; rintro e w' ⟨rfl, h'⟩; replace H := Lib.hid h'; clear h'))
    obtain ⟨u9, hu9, h9⟩ := tick_up (t := t) (N := 16) H.out (by omega) (by omega)
    exact hR.out _ _ ⟨_, u9, hu9, by rw [hv] <;> rfl, by rw [hv]; exact h9⟩
end
end Go.Proofs.YtognmhgdegpdiaaGreat
end
section
/- Rings as slices; which tree has a rank. -/
namespace Go.Proofs.YtognmhgdegpdiaaGreat
open Go.RowKit
set_option linter.unusedVariables false
set_option linter.unusedSimpArgs false
set_option maxRecDepth 100000
theorem tab_one {w : World} {g : Nat} {x : Int} (h : Blk w g 3 #[.int .i64 x]) : TabIs w 0 3 1 (.slice (some ⟨g, 0, none⟩) 1 1) (iR [x]) :=
  ⟨[.int .i64 x], ⟨by simp [iR], .inr ⟨g, 1, #[.int .i64 x], by simp [iR], Nat.zero_le _, h, by simp [iR], by unfold maxLen; omega, by simp, by simp [iR]⟩⟩, by simp [iR], by
    intro i c hi j u hj
    rcases i with _ | i
    · simp [iR] at hi
      subst hi
      rcases j with _ | j
      · simpa using hj
      · simp at hj
    · simp [iR] at hi⟩
theorem iT_one {B : Nat} {w0 w : World} {A C : List Ent} (x : Int) (h : Led B w0 w (A ++ C)) : Led B w0 (w.alloc (.cells #[.int .i64 x] 3)) (A ++ iT (.slice (some ⟨w.heap.size, 0, none⟩) 1 1) [x] :: C) :=
  h.insert (iT (.slice (some ⟨w.heap.size, 0, none⟩) 1 1) [x]) ((Below.refl _ _).alloc (Nat.le_refl _) _) (tab_one (Blk.new _ _ _)) (fun b hb => by simp [iT, tabE, Value.ownBlock] at hb; omega)
section
variable {B : Nat} {w0 w : World} {C : List Ent} {vf : Value} (X : ArM) (s : Ar) (t : Nat)
set_option maxHeartbeats 4000000 in
theorem ch_all (c : Int) (hn : s.n ≤ 65536 ∧ 1 ≤ s.n) (h : Led B w0 w (X.es vf (s.tick t) ++ C)) :
    Calls Tryz.prog 194 #[.pointer (some ⟨X.p, 0, none⟩), .int .i64 c] w fun e w' => ∃ v, e = .returned v ∧ Led B w0 w' (X.es vf (s.tick (t + (s.ring c).length)) ++ iT v (s.ring c) :: C) := by
  obtain ⟨N, hN⟩ : ∃ N, s.n = N := ⟨_, rfl⟩
  cases hlv : s.has c with
  | false =>
    have hv : s.ring c = [] := by rw [Ar.ring, hlv]; rfl
    have H := Lib.hid (iT_new h)
    clear h
    refine callsR fun R hR => ?_
    go_enter Tryz.func194, Tryz.ntmps194
    go_wp2_with (first | (go_at_call 153; refine Calls.mono (t_live _ _ _ _ H.out) ?_; rintro e w' ⟨rfl, rfl⟩; (try rw [hlv])))
    exact hR.out _ _ ⟨_, rfl, by rw [hv]; exact H.out⟩
  | true =>
    have hv : s.ring c = c :: s.ringL c (s.n - 1) (s.cell c 3) := by rw [Ar.ring, hlv]; rfl
    rw [hv]
    have H := Lib.hid h
    clear h hv
    refine callsR fun R hR => ?_
    go_enter Tryz.func194, Tryz.ntmps194
    go_upto_region 3 with (first | (go_at_call 153; refine Calls.mono (t_live _ _ _ _ H.out) ?_; rintro e w' ⟨rfl, rfl⟩; (try rw [hlv])))
    have H2 := Lib.hid (iT_one c H.out)
    replace H := H2
    clear H2
    go_upto_block 0 with (first | (go_at_call 151; refine Calls.mono (t_cell _ _ _ _ _ (by decide) H.out) ?_; rintro e w' ⟨rfl, h'⟩; replace H := Lib.hid h'; clear h'))
    obtain ⟨G, hG⟩ : ∃ G, c :: s.ringL c (s.n - 1) (s.cell c 3) = G := ⟨_, rfl⟩
    rw [hG] at hR
    have HG := Lib.hid hG
    clear hG
    go_wp2_with fail
    go_loopw [5, 6] (fun v x wx => ∃ (L : List Int) (d : Int), x = .int .i64 d ∧ 1 ≤ L.length ∧ L.length ≤ s.n ∧ lenV v = L.length ∧ Hid (L ++ s.ringL c (s.n - L.length) d = G) ∧ Hid (Led B w0 wx (X.es vf (s.tick (t + L.length)) ++ iT v L :: C))) (fun v _ _ => s.n - lenV v)
    case atStart => exact ⟨[c], s.cell c 3, rfl, by simp, by simp; omega, rfl, Lib.hid (by rw [← HG.out]; rfl), H⟩
    case round =>
      clear H
      obtain ⟨L, d, rfl, hL1, hL, hvl, HE, H⟩ := hrel
      obtain ⟨A, cp, hv, _⟩ := iT_form (iT_tab H.out)
      subst hv
      have stop : s.ringL c (s.n - L.length) d = [] → G = L := fun h => by have he := HE.out; rw [h, List.append_nil] at he; exact he.symm
      have HST := Lib.hid stop
      clear stop
      by_cases hd : d = c
      · have g1 : (d != c) = false := by simpa using hd
        have HD := Lib.hid hd
        clear hd
        go_wp2_with fail
        exact hR.out _ _ ⟨_, rfl, by rw [HST.out (by cases s.n - L.length with | zero => rfl | succ k => rw [Ar.ringL, if_neg (fun h => h.1 HD.out)])]; exact H.out⟩
      · have g1 : (d != c) = true := by simpa using hd
        have HD := Lib.hid hd
        clear hd
        cases hlv : s.has d with
        | false =>
          have HLV := Lib.hid hlv
          go_wp2_with (first | (go_at_call 153; refine Calls.mono (t_live _ _ _ _ H.out) ?_; rintro e w' ⟨rfl, rfl⟩; (try rw [hlv])))
          exact hR.out _ _ ⟨_, rfl, by rw [HST.out (by cases s.n - L.length with | zero => rfl | succ k => rw [Ar.ringL, if_neg (fun h => by rw [HLV.out] at h; exact absurd h.2 (by decide))])]; exact H.out⟩
        | true =>
          have HLV := Lib.hid hlv
          by_cases hlt : L.length < s.n
          · have g2 : decide ((L.length : Int) < (s.n : Int)) = true := by simp; omega
            have he := HE.out
            rw [show s.n - L.length = (s.n - (L ++ [d]).length) + 1 by simp; omega, Ar.ringL, if_pos ⟨HD.out, HLV.out⟩, List.append_cons] at he
            have HE2 := Lib.hid he
            have hln : (iR L).length ≤ 1000000000 := by rw [iR_len]; omega
            clear he HE HST
            go_wp2_with (first | (go_at_call 153; refine Calls.mono (t_live _ _ _ _ H.out) ?_; rintro e w' ⟨rfl, rfl⟩; (try rw [hlv])) | (go_at_call 179; refine Calls.mono (t_cells _ _ _ H.out) ?_; rintro e w' ⟨rfl, rfl⟩) | (at_builtin; refine wpList_push (by rfl) (.tmp 38) (.tmp 40) 45 (by rfl) 0 3 _ 1 8 Tryz.underlying45 info_int_ (by rfl) (by decide) (.slice A L.length cp) (iR (L)) #[.int .i64 (d)] (by rfl) (iT_tab H.out) (by rfl) (by rfl) (by simp [Value.oneCell']) (hln) (by decide) (Nat.zero_le _) ?_; intro v' w' p1 p2 p3; obtain ⟨A', c', hv, _⟩ := p1.form; simp only [List.length_append, List.length_singleton, iR_len] at hv; subst hv; replace H := Lib.hid (iT_push H.out p1 p2 p3); clear p1 p2 p3) | (go_at_call 151; refine Calls.mono (t_cell _ _ _ _ _ (by decide) H.out) ?_; rintro e w' ⟨rfl, h'⟩; replace H := Lib.hid h'; clear h'))
            go_roundw
            case rel => exact ⟨L ++ [d], s.cell d 3, rfl, by simp, by simp; omega, by simp [lenV], HE2, by rw [List.length_append]; exact H⟩
            case measure => simp [lenV] <;> omega
          · have g2 : decide ((L.length : Int) < (s.n : Int)) = false := by simp; omega
            go_wp2_with (first | (go_at_call 153; refine Calls.mono (t_live _ _ _ _ H.out) ?_; rintro e w' ⟨rfl, rfl⟩; (try rw [hlv])) | (go_at_call 179; refine Calls.mono (t_cells _ _ _ H.out) ?_; rintro e w' ⟨rfl, rfl⟩))
            exact hR.out _ _ ⟨_, rfl, by rw [HST.out (by rw [show s.n - L.length = 0 by omega]; rfl)]; exact H.out⟩
end
end Go.Proofs.YtognmhgdegpdiaaGreat
end
section
/- Rows of trees with their ranks. -/
namespace Go.Proofs.YtognmhgdegpdiaaGreat
open Go.RowKit
set_option linter.unusedVariables false
set_option linter.unusedSimpArgs false
set_option maxRecDepth 100000
def pR (L : List (Int × Int)) : List (List Value) := L.map fun x => [Value.int .i64 x.1, .int .i64 x.2]
def pT (T : TypeId) (v : Value) (L : List (Int × Int)) : Ent := tabE T 2 v (pR L)
theorem pR_len (L : List (Int × Int)) : (pR L).length = L.length := by simp [pR]
theorem pR_snoc (L : List (Int × Int)) (x y : Int) : pR L ++ [(#[Value.int .i64 x, .int .i64 y] : Array Value).toList] = pR (L ++ [(x, y)]) := by simp [pR]
theorem pT_new {T : TypeId} {B : Nat} {w0 w : World} {A C : List Ent} (h : Led B w0 w (A ++ C)) : Led B w0 w (A ++ pT T (.slice none 0 0) [] :: C) :=
  h.insert (pT T (.slice none 0 0) []) (Below.refl _ _) (TabIs.nil _ _ _ _) (fun b hb => by simp [pT, tabE, Value.ownBlock] at hb)
theorem pT_tab {T : TypeId} {B : Nat} {w0 w : World} {A C : List Ent} {v : Value} {L : List (Int × Int)} (h : Led B w0 w (A ++ pT T v L :: C)) : TabIs w 0 T 2 v (pR L) := h.mem
theorem pT_form {T : TypeId} {w : World} {v : Value} {L : List (Int × Int)} (h : TabIs w 0 T 2 v (pR L)) : ∃ A c, v = .slice A L.length c ∧ (0 < L.length → ∃ g, A = some ⟨g, 0, none⟩) := by
  obtain ⟨A, c, h1, _, h3⟩ := h.form
  rw [pR_len] at h1 h3
  exact ⟨A, c, h1, fun hp => let ⟨g, hg, _⟩ := h3 hp; ⟨g, hg⟩⟩
theorem pT_get {T : TypeId} {w : World} {g n c : Nat} {L : List (Int × Int)} {i : Nat} {x : Int × Int} (h : TabIs w 0 T 2 (.slice (some ⟨g, 0, none⟩) n c) (pR L)) (hi : L[i]? = some x) : w.cell? ⟨g, i * 2, none⟩ = some (.int .i64 x.1) ∧ w.cell? ⟨g, i * 2 + 1, none⟩ = some (.int .i64 x.2) :=
  ⟨h.cell (i := i) (j := 0) (r := [Value.int .i64 x.1, .int .i64 x.2]) (by rw [pR, List.getElem?_map, hi]; rfl) rfl, h.cell (i := i) (j := 1) (r := [Value.int .i64 x.1, .int .i64 x.2]) (by rw [pR, List.getElem?_map, hi]; rfl) rfl⟩
theorem pT_push {T : TypeId} {B : Nat} {w0 w w' : World} {A C : List Ent} {v v' : Value} {L : List (Int × Int)} {x y : Int} (h : Led B w0 w (A ++ pT T v L :: C)) (h1 : TabIs w' 0 T 2 v' (pR L ++ [(#[Value.int .i64 x, .int .i64 y] : Array Value).toList])) (h2 : Chg v.ownBlock.toList w w') (h3 : Fresh v.ownBlock.toList v'.ownBlock.toList w) : Led B w0 w' (A ++ pT T v' (L ++ [(x, y)]) :: C) :=
  h.mid (pT T v' (L ++ [(x, y)])) h2 (by rw [pR_snoc] at h1; exact h1) h3
def pidx (q : Int) : List (Int × Int) → Option Nat
  | [] => none
  | x :: l => if x.2 = q then some 0 else (pidx q l).map (· + 1)
def pnum : Option Nat → Int
  | none => -1
  | some i => (i : Int)
theorem pidx_lt {q : Int} : ∀ {L : List (Int × Int)} {i : Nat}, pidx q L = some i → ∃ x, L[i]? = some x ∧ x.2 = q
  | [], _, h => by simp [pidx] at h
  | x :: l, i, h => by
    unfold pidx at h
    split at h
    · injection h with h; subst h; exact ⟨x, rfl, by assumption⟩
    · cases hp : pidx q l with
      | none => rw [hp] at h; simp at h
      | some k => rw [hp] at h; simp at h; subst h; obtain ⟨y, h1, h2⟩ := pidx_lt hp; exact ⟨y, by simpa using h1, h2⟩
section
variable {B : Nat} {w0 w : World} {A C : List Ent}
theorem un_clo (n r q : Int) (b : Nat) (w : World) (hb : w.cell? ⟨b, 1, none⟩ = some (.int .i64 q)) (hl : b < w.heap.size) : Calls Tryz.prog 218 #[.agg #[.int .i64 n, .int .i64 r], .pointer (some ⟨b, 0, none⟩)] w fun e w' => e = .returned (.bool (r == q)) ∧ Below w.heap.size w w' := by
  refine callsR fun R hR => ?_
  go_enter Tryz.func218, Tryz.ntmps218
  go_wp2_with fail
  exact hR.out _ _ ⟨rfl, (Below.refl _ _).alloc (Nat.le_refl _) _⟩
set_option maxHeartbeats 4000000 in
theorem un_index (n q : Int) (b : Nat) (v : Value) (L : List (Int × Int)) (hL : L.length ≤ 1000000) (h : Led B w0 w (A ++ blkE b 216 #[.int .i64 n, .int .i64 q] :: pT 216 v L :: C)) :
    Calls Tryz.prog 217 #[v, .func (.func 218) #[] #[.pointer (some ⟨b, 0, none⟩)]] w fun e w' => e = .returned (.int .i64 (pnum (pidx q L))) ∧ Led B w0 w' (A ++ blkE b 216 #[.int .i64 n, .int .i64 q] :: pT 216 v L :: C) := by
  have H := Lib.hid h
  clear h
  have HT : Hid (∀ W, Led B w0 W (A ++ blkE b 216 #[.int .i64 n, .int .i64 q] :: pT 216 v L :: C) → TabIs W 0 216 2 v (pR L)) := Lib.hid fun W hW => pT_tab (A := A ++ [blkE b 216 #[.int .i64 n, .int .i64 q]]) (by simpa using hW)
  obtain ⟨V, c, hv, hV⟩ := pT_form (HT.out _ H.out)
  subst hv
  obtain ⟨N, hN⟩ : ∃ N, L.length = N := ⟨_, rfl⟩
  rw [hN] at hL hV HT H ⊢
  have HN := Lib.hid hN
  clear hN
  refine callsR fun R hR => ?_
  go_enter Tryz.func217, Tryz.ntmps217
  go_wp2_with fail
  go_loopw [8] (fun x wx => ∃ j : Nat, j ≤ N ∧ x = .int .i64 (j : Int) ∧ Hid (pidx q L = (pidx q (L.drop j)).map (· + j)) ∧ Hid (Led B w0 wx (A ++ blkE b 216 #[.int .i64 n, .int .i64 q] :: pT 216 (.slice V N c) L :: C))) (fun x _ => N - (intOf x).toNat)
  case atStart => exact ⟨0, by omega, rfl, Lib.hid (by simp), H⟩
  case round =>
    clear H
    obtain ⟨j, hj, rfl, HE, H⟩ := hrel
    by_cases hlt : j < N
    · obtain ⟨x, hx⟩ : ∃ x, L[j]? = some x := ⟨_, List.getElem?_eq_getElem (by rw [HN.out]; exact hlt)⟩
      obtain ⟨g, rfl⟩ := hV (by omega)
      obtain ⟨t0, t1⟩ := pT_get (HT.out _ H.out) hx
      have hbb : Blk wr b 216 #[.int .i64 n, .int .i64 q] := H.out.mem
      have b1 := hbb.cell 1
      simp only [List.getElem?_toArray, List.getElem?_cons_zero, List.getElem?_cons_succ] at b1
      have lb := hbb.lt
      have hdr : L.drop j = x :: L.drop (j + 1) := by rw [List.drop_eq_getElem_cons (by rw [HN.out]; exact hlt), (List.getElem?_eq_some_iff.1 hx).2]
      have he := HE.out
      rw [hdr, pidx] at he
      clear hV hbb hdr hx
      by_cases hq : x.2 = q
      · rw [if_pos hq] at he
        have g1 : (x.2 == q) = true := by simpa using hq
        have HE2 := Lib.hid he
        clear he HE hq
        go_wp2_with (first | (go_at_call 218; refine Calls.mono (un_clo _ _ _ _ _ b1 lb) ?_; rintro e w' ⟨rfl, h'⟩; replace H := Lib.hid (H.out.later h'); clear h'; rw [g1]))
        exact hR.out _ _ ⟨by rw [HE2.out]; simp [pnum], H.out⟩
      · rw [if_neg hq, Option.map_map] at he
        have g1 : (x.2 == q) = false := by simpa using hq
        have HE2 := Lib.hid he
        clear he HE hq
        go_wp2_with (first | (go_at_call 218; refine Calls.mono (un_clo _ _ _ _ _ b1 lb) ?_; rintro e w' ⟨rfl, h'⟩; replace H := Lib.hid (H.out.later h'); clear h'; rw [g1]))
        go_roundw
        case rel => exact ⟨j + 1, by omega, by go_num, Lib.hid (by rw [HE2.out]; congr 1; funext k; simp; omega), H⟩
        case measure => simp [intOf] <;> omega
    · obtain rfl : j = N := by omega
      have he := HE.out
      rw [List.drop_of_length_le (by rw [HN.out]; omega), pidx] at he
      have HE2 := Lib.hid he
      clear he HE hV
      go_wp2_with fail
      exact hR.out _ _ ⟨by rw [HE2.out]; rfl, H.out⟩
end
end Go.Proofs.YtognmhgdegpdiaaGreat
end
section
/- A tree is struck out of a row. -/
namespace Go.Proofs.YtognmhgdegpdiaaGreat
open Go.RowKit
set_option linter.unusedVariables false
set_option linter.unusedSimpArgs false
set_option maxRecDepth 100000
theorem setList_all : ∀ (vs : List Value) (r : List Value) (j : Nat), j + vs.length ≤ r.length → setList r j vs = r.take j ++ vs ++ r.drop (j + vs.length)
  | [], r, j, _ => by simp [setList]
  | v :: vs, r, j, h => by
    simp only [List.length_cons] at h
    rw [setList, setList_all vs _ _ (by rw [List.length_set]; omega)]
    have h1 : (r.set j v).take (j + 1) = r.take j ++ [v] := by rw [List.take_add_one, List.getElem?_set_self (by omega)]; simp [List.take_set_of_le (Nat.le_refl j)]
    rw [h1, List.drop_set_of_lt (by omega)]
    simp [Nat.add_assoc, Nat.add_comm 1]
theorem setCells_append (w : World) (g : Nat) : ∀ (xs : List Value) (o : Nat) (w : World) (ys : List Value), w.setCells g o (xs ++ ys) = (w.setCells g o xs).setCells g (o + xs.length) ys
  | [], o, w, ys => rfl
  | x :: xs, o, w, ys => by
    show (w.setCell ⟨g, o, none⟩ x).setCells g (o + 1) (xs ++ ys) = _
    rw [setCells_append w g xs, show o + 1 + xs.length = o + (x :: xs).length by simp; omega]
    rfl
theorem TabIs.setRows {base : Nat} {e : TypeId} {sz g n cp : Nat} : ∀ (R : List (List Value)) (i : Nat) (w : World) (L : List (List Value)), TabIs w base e sz (.slice (some ⟨g, 0, none⟩) n cp) L → (∀ r ∈ R, r.length = sz) → i + R.length ≤ L.length → TabIs (w.setCells g (i * sz) R.flatten) base e sz (.slice (some ⟨g, 0, none⟩) n cp) (L.take i ++ R ++ L.drop (i + R.length))
  | [], i, w, L, h, _, _ => by
    have : L.take i ++ [] ++ L.drop (i + ([] : List (List Value)).length) = L := by simp
    rw [this]
    exact h
  | r :: R, i, w, L, h, hr, hi => by
    simp only [List.length_cons] at hi
    obtain ⟨x, hx⟩ : ∃ x, L[i]? = some x := ⟨_, List.getElem?_eq_getElem (by omega)⟩
    have hrl := hr r (by simp)
    have hxl : x.length = sz := by obtain ⟨_, _, h2, _⟩ := h; exact h2 x (List.mem_of_getElem? hx)
    have h1 := TabIs.setCells_ r 0 w L x h hx (by omega)
    rw [setList_all r x 0 (by omega), List.take_zero, List.nil_append, List.drop_of_length_le (by omega), List.append_nil] at h1
    have h2 := TabIs.setRows R (i + 1) _ _ h1 (fun q hq => hr q (by simp [hq])) (by rw [List.length_set]; omega)
    have e1 : (L.set i r).take (i + 1) = L.take i ++ [r] := by rw [List.take_add_one, List.getElem?_set_self (by omega)]; simp [List.take_set_of_le (Nat.le_refl i)]
    rw [e1, List.drop_set_of_lt (by omega)] at h2
    rw [List.flatten_cons, setCells_append w, hrl]
    have e2 : (i + 1) * sz = i * sz + sz := by rw [Nat.add_mul]; omega
    rw [e2] at h2
    simpa [Nat.add_assoc, Nat.add_comm 1] using h2
theorem flat_get {sz : Nat} : ∀ (R : List (List Value)) (j : Nat) (u : Value), (∀ r ∈ R, r.length = sz) → R.flatten[j]? = some u → ∃ a b r, j = a * sz + b ∧ R[a]? = some r ∧ r[b]? = some u
  | [], j, u, _, h => by simp at h
  | r :: R, j, u, hr, h => by
    have hrl := hr r (by simp)
    rw [List.flatten_cons] at h
    by_cases hj : j < r.length
    · rw [List.getElem?_append_left hj] at h
      exact ⟨0, j, r, by simp, rfl, h⟩
    · rw [List.getElem?_append_right (by omega)] at h
      obtain ⟨a, b, r2, h1, h2, h3⟩ := flat_get R _ u (fun q hq => hr q (by simp [hq])) h
      exact ⟨a + 1, b, r2, by rw [Nat.add_mul]; omega, by simpa using h2, h3⟩
theorem TabIs.there_ {w : World} {base : Nat} {e : TypeId} {sz g n c : Nat} {L : List (List Value)} (h : TabIs w base e sz (.slice (some ⟨g, 0, none⟩) n c) L) {j : Nat} (hj : j < L.length * sz) : (w.cell? ⟨g, j, none⟩).isSome = true := by
  obtain rfl := h.len
  obtain ⟨xs, h1, _⟩ := h
  rw [h1.cellAt _ hj]
  have : j < xs.length := by rw [h1.1]; exact hj
  rw [List.getElem?_eq_getElem this]
  rfl
theorem clear_pair (w : World) (t e ty : TypeId) (ht : Tryz.prog.underlying t = some (.slice e)) (hv : ∀ w, (zeroValue e).run Tryz.prog w = .ok (.agg #[.int .i64 0, .int .i64 0]) w) (b o c : Nat) (hc : ∀ j, j < 2 → (w.cell? ⟨b, o + j, none⟩).isSome = true) (hf : ∀ j, j < 2 → w.frozen? ⟨b, o + j, none⟩ = false) :
    (Builtin.clear_ #[t] ty #[.slice (some ⟨b, o, none⟩) 1 c]).run Tryz.prog w = .ok (.tuple #[]) (w.setCells b o [.int .i64 0, .int .i64 0]) := by
  have hst := run_storeCells_cells (P := Tryz.prog) b o [.int .i64 0, .int .i64 0] 0 w (by simpa using hc) (by simpa using hf) (by intro v hv'; simp at hv'; subst hv'; rfl)
  simp only [Nat.add_zero] at hst
  have hzc : (Builtin.zeroCells #[Value.int .i64 0, .int .i64 0] 1).toList = [.int .i64 0, .int .i64 0] := by unfold Builtin.zeroCells; rw [Array.toList_map, Array.toList_range]; rfl
  simp [Builtin.clear_, run_underlying ht, hv, Value.cells, hzc, hst]
section
variable {B : Nat} {w0 w : World} {A C : List Ent}
set_option maxHeartbeats 4000000 in
theorem un_delete (i : Nat) (v : Value) (L : List (Int × Int)) (hi : i < L.length) (hL : L.length ≤ 1000000) (h : Led B w0 w (A ++ pT 216 v L :: C)) :
    Calls Tryz.prog 219 #[v, .int .i64 (i : Int), .int .i64 ((i : Int) + 1)] w fun e w' => ∃ v', e = .returned v' ∧ Led B w0 w' (A ++ pT 216 v' (L.eraseIdx i) :: C) := by
  have H := Lib.hid h
  clear h
  obtain ⟨V, c, hv, hcap, hV⟩ := (pT_tab H.out).form
  rw [pR_len] at hv hcap hV
  obtain ⟨g, rfl, _, _⟩ := hV (by omega)
  subst hv
  obtain ⟨k, hk⟩ : ∃ k, L.length = k + 1 := ⟨L.length - 1, by omega⟩
  rw [hk] at hcap hi H ⊢
  have HK := Lib.hid hk
  clear hk hV hL
  refine callsR fun R hR => ?_
  go_enter Tryz.func219, Tryz.ntmps219
  go_upto_region 5 with fail
  have HT := Lib.hid (pT_tab H.out.drew)
  have hR2 : ∀ r ∈ pR L, r.length = 2 := by intro r hr; obtain ⟨x, _, rfl⟩ := List.mem_map.1 hr; rfl
  have hpl : (pR L).length = k + 1 := by rw [pR_len, HK.out]
  obtain ⟨news, hnews⟩ : ∃ news, news = (pR (L.drop (i + 1))).flatten := ⟨_, rfl⟩
  have hRl : (pR (L.drop (i + 1))).length = k - i := by rw [pR_len, List.length_drop, HK.out]; omega
  have hR3 : ∀ r ∈ pR (L.drop (i + 1)), r.length = 2 := by intro r hr; obtain ⟨x, _, rfl⟩ := List.mem_map.1 hr; rfl
  have hflat : ∀ R : List (List Value), (∀ r ∈ R, r.length = 2) → R.flatten.length = R.length * 2 := by intro R; induction R with | nil => intro _; rfl | cons r R ih => intro h; rw [List.flatten_cons, List.length_append, ih (fun q hq => h q (by simp [hq])), h r (by simp)]; simp; omega
  have s1 : Hid (news.length = (k - i) * 2) := Lib.hid (by rw [hnews, hflat _ hR3, hRl])
  have s2 : Hid (∀ u ∈ news, u.oneCell' = true) := Lib.hid (by intro u hu; rw [hnews, List.mem_flatten] at hu; obtain ⟨r, hr, hu⟩ := hu; obtain ⟨x, _, rfl⟩ := List.mem_map.1 hr; simp at hu; rcases hu with rfl | rfl <;> rfl)
  have s3 : Hid (∀ j, j < news.length → (w.drew.cell? ⟨g, 0 + i * 2 + j, none⟩).isSome = true ∧ w.drew.frozen? ⟨g, 0 + i * 2 + j, none⟩ = false) := Lib.hid (fun j hj => by rw [s1.out] at hj; exact ⟨HT.out.there_ (by rw [hpl]; omega), HT.out.frozen _⟩)
  obtain ⟨A2, hA2, hsrc⟩ : ∃ A2 : Addr, (if c = i + 1 then (⟨g, 0, none⟩ : Addr) else ⟨g, (i + 1) * 2, none⟩) = A2 ∧ Hid (∀ j u, news[j]? = some u → w.drew.cell? (A2.add j) = some u) := by
    refine ⟨_, rfl, Lib.hid fun j u hu => ?_⟩
    have hjl := (List.getElem?_eq_some_iff.1 hu).1
    rw [s1.out] at hjl
    rw [if_neg (by omega), Addr.add_mid]
    rw [hnews] at hu
    obtain ⟨a, b, r, rfl, h2, h3⟩ := flat_get _ j u hR3 hu
    rw [show (i + 1) * 2 + (a * 2 + b) = (i + 1 + a) * 2 + b by omega]
    exact HT.out.cell (by rw [pR, List.map_drop, List.getElem?_drop] at h2; exact h2) h3
  obtain ⟨W1, hW1⟩ : ∃ W1, W1 = w.drew.setCells g (0 + i * 2) news := ⟨_, rfl⟩
  have hT1 : TabIs W1 0 216 2 (.slice (some ⟨g, 0, none⟩) (k + 1) c) ((pR L).take i ++ pR (L.drop (i + 1)) ++ (pR L).drop k) := by
    have h2 := TabIs.setRows (pR (L.drop (i + 1))) i _ _ HT.out hR3 (by rw [hRl, hpl]; omega)
    rw [hW1, hnews, Nat.zero_add]
    rw [hRl, show i + (k - i) = k by omega] at h2
    exact h2
  have hW1g : Chg [g] w W1 := by rw [hW1]; exact chg_setCells g news w w.drew _ (Chg.refl _ _).drew
  have hinfo : (Tryz.prog.info? 216).map (·.size) = some 2 := by kernel_rfl
  obtain ⟨i0, hi0, hz1⟩ : ∃ i0, Tryz.prog.info? 216 = some i0 ∧ i0.size = 2 := by cases hi0 : Tryz.prog.info? 216 with | none => rw [hi0] at hinfo; simp at hinfo | some i0 => rw [hi0] at hinfo; exact ⟨i0, rfl, by simpa using hinfo⟩
  have HI0 := Lib.hid hi0
  have HZ1 := Lib.hid hz1
  have HW1 := Lib.hid hW1
  have HA2 := Lib.hid hA2
  clear hinfo hnews hRl hR3 hR2 hpl hflat hi0 hz1 hW1 hA2
  have hic : i ≤ c := by omega
  have hjc : i + 1 ≤ c := by omega
  have hjk : i ≤ k := by omega
  have hj0 : 0 ≤ (i : Int) + 1 := by omega
  go_region_law (refine step_append_room rfl (.tmp 22) (.tmp 25) 214 rfl 216 i0 2 Tryz.underlying214 HI0.out HZ1.out g 0 i c (by simp [Act.eval, Act.put]) A2 (k - i) (c - (i + 1)) news (by rw [← HA2.out]; simp [Act.eval, Act.put]; split <;> rfl) s1.out hsrc.out s2.out (by omega) s3.out ?_; rw [← HW1.out])
  have hMl : ((pR L).take i ++ pR (L.drop (i + 1))).length = k := by rw [List.length_append, List.length_take, pR_len, pR_len, List.length_drop, HK.out]; omega
  have hme : (pR L).take i ++ pR (L.drop (i + 1)) = pR (L.eraseIdx i) := by rw [List.eraseIdx_eq_take_drop_succ]; simp [pR, List.map_take]
  have hel : (L.eraseIdx i).length = k := by rw [List.length_eraseIdx, if_pos (by rw [HK.out]; omega), HK.out]; omega
  have hlast : (((pR L).drop k).length = 1) := by rw [List.length_drop, pR_len, HK.out]; omega
  rw [hme] at hMl hT1
  obtain ⟨M1, hM1⟩ : ∃ M1, pR (L.eraseIdx i) = M1 := ⟨_, rfl⟩
  obtain ⟨D1, hD1⟩ : ∃ D1, (pR L).drop k = D1 := ⟨_, rfl⟩
  rw [hM1, hD1] at hT1
  rw [hM1] at hMl
  rw [hD1] at hlast
  have h3 := TabIs.setRows [[.int .i64 0, .int .i64 0]] k _ _ hT1 (by simp) (by rw [List.length_append, hMl, hlast]; simp)
  rw [List.take_append_of_le_length (by rw [hMl]; exact Nat.le_refl _), List.take_of_length_le (by rw [hMl]; exact Nat.le_refl _), List.drop_of_length_le (by rw [List.length_append, hMl, hlast]; simp), List.append_nil, ← hM1] at h3
  have h4 : TabIs (W1.setCells g (k * 2) [.int .i64 0, .int .i64 0]) 0 216 2 (.slice (some ⟨g, 0, none⟩) k c) (pR (L.eraseIdx i)) := by
    have h5 := TabIs.pop (L := pR (L.eraseIdx i)) (r := [.int .i64 0, .int .i64 0]) (A := some ⟨g, 0, none⟩) (c := c) (w := W1.setCells g (k * 2) [.int .i64 0, .int .i64 0]) (by rw [pR_len, hel]; exact h3)
    rw [pR_len, hel] at h5
    exact h5
  have H9 := Lib.hid (H.out.mid (pT 216 (.slice (some ⟨g, 0, none⟩) k c) (L.eraseIdx i)) (w' := W1.setCells g (k * 2) [.int .i64 0, .int .i64 0]) (by simpa [pT, tabE, Value.ownBlock] using chg_setCells g [.int .i64 0, .int .i64 0] w W1 (k * 2) hW1g) h4 (by simp [pT, tabE, Value.ownBlock]; exact Fresh.refl _ _))
  have hcl : ∀ ty, (Builtin.clear_ #[214] ty #[.slice (some ⟨g, k * 2, none⟩) 1 (c - k)]).run Tryz.prog W1 = .ok (.tuple #[]) (W1.setCells g (k * 2) [.int .i64 0, .int .i64 0]) := fun ty => clear_pair W1 _ 216 ty Tryz.underlying214 (fun w => by kernel_rfl) g (k * 2) _ (fun j hj => hT1.there_ (by rw [List.length_append, hMl, hlast]; omega)) (fun j hj => hT1.frozen _)
  have hkc : k ≤ c := by omega
  clear h3 h4 hT1 hW1g hMl hme hel hlast hM1 hD1 HW1 s1 s2 s3 hsrc HA2
  generalize (W1.setCells g (k * 2) [Value.int .i64 0, .int .i64 0]) = W2 at *
  generalize (if c = i + 1 then some (⟨g, 0, none⟩ : Addr) else some ⟨g, (i + 1) * 2, none⟩) = q5
  go_wp2_with fail
  exact hR.out _ _ ⟨_, rfl, H9.out⟩
end
end Go.Proofs.YtognmhgdegpdiaaGreat
end
section
/- Fibonacci heaps: trees are made of unlike ranks. -/
namespace Go.Proofs.YtognmhgdegpdiaaGreat
open Go.RowKit
set_option linter.unusedVariables false
set_option linter.unusedSimpArgs false
set_option maxRecDepth 100000
theorem info_rk : (Tryz.prog.info? 216).map (fun i => (i.zero, i.size, i.bytes)) = some (some (.agg #[.int .i64 0, .int .i64 0]), 2, 16) := by kernel_rfl
def Ar.fmerge : Nat → Ar → List (Int × Int) → Int → Int → Ar × List (Int × Int)
  | 0, s, B, n, q => (s, B ++ [(n, q)])
  | f + 1, s, B, n, q => match pidx q B with
    | none => (s, B ++ [(n, q)])
    | some i => if s.nbefore n (B.getD i (0, 0)).1 then Ar.fmerge f ((s.funder (B.getD i (0, 0)).1 n).put n 4 (q + 1)) (B.eraseIdx i) n (q + 1)
      else Ar.fmerge f ((s.funder n (B.getD i (0, 0)).1).put (B.getD i (0, 0)).1 4 (q + 1)) (B.eraseIdx i) (B.getD i (0, 0)).1 (q + 1)
def Ar.fcarry : Ar → List (Int × Int) → List Int → Ar × List (Int × Int)
  | s, B, [] => (s, B)
  | s, B, n :: l => Ar.fcarry (Ar.fmerge B.length s B n (s.get n 4)).1 (Ar.fmerge B.length s B n (s.get n 4)).2 l
def Ar.flay (f0 : Int) : Nat → Ar → Int → List Int → Ar × Int
  | _, s, root, [] => (s, root)
  | 0, s, _, x :: l => Ar.flay f0 1 (s.clink x x) x l
  | _ + 1, s, root, x :: l => Ar.flay f0 1 ((s.clink x x).cput f0 x) (((s.clink x x).cput f0 x).flesser root x) l
def Ar.funlike (s : Ar) (l : List Int) : Ar × Int := Ar.flay ((s.fcarry [] l).2.headD (0, 0)).1 0 (s.fcarry [] l).1 (-1) ((s.fcarry [] l).2.map (·.1))
theorem Ar.RB.clink {s : Ar} {K : Int} (h : s.RB K) (c d : Int) : (s.clink c d).RB K := (h.put _ _ _ (by decide)).put _ _ _ (by decide)
theorem Ar.RB.cput {s : Ar} {K : Int} (h : s.RB K) (c d : Int) : (s.cput c d).RB K := (h.clink _ _).clink _ _
theorem Ar.RB.funder {s : Ar} {K : Int} (h : s.RB K) (n up : Int) : (s.funder n up).RB K := by
  unfold Ar.funder
  split
  · exact (((h.clink n n).put _ _ _ (by decide)).put _ _ _ (by decide)).put _ _ _ (by decide)
  · exact (((h.clink n n).cput _ _).put _ _ _ (by decide)).put _ _ _ (by decide)
theorem fmerge_none {B : List (Int × Int)} {q : Int} (s : Ar) (n : Int) (h : pidx q B = none) : ∀ f, Ar.fmerge f s B n q = (s, B ++ [(n, q)])
  | 0 => rfl
  | f + 1 => by rw [Ar.fmerge, h]
section
variable {B : Nat} {w0 w : World} {C : List Ent} {vf : Value} (X : ArM) (s : Ar) (t : Nat)
set_option maxHeartbeats 16000000 in
theorem fb_unlike (l : List Int) (vl : Value) (K : Int) (hrb : s.RB K) (hK : 0 ≤ K ∧ K ≤ 10000000) (hl : l.length ≤ 1000000) (h : Led B w0 w (X.es vf (s.tick t) ++ iT vl l :: C)) :
    Calls Tryz.prog 196 #[.pointer (some ⟨X.p, 0, none⟩), vl] w fun e w' => ∃ u, u ≤ 18 * l.length ∧ e = .returned (.int .i64 (s.funlike l).2) ∧ Led B w0 w' (X.es vf ((s.funlike l).1.tick (t + u)) ++ C) := by
  have H := Lib.hid h
  clear h
  have HRB := Lib.hid hrb
  clear hrb
  obtain ⟨V, cv, hv, hV⟩ := iT_form (iT_tab H.out)
  subst hv
  obtain ⟨N, hN⟩ : ∃ N, l.length = N := ⟨_, rfl⟩
  obtain ⟨P, hP⟩ : ∃ P, s.fcarry [] l = P := ⟨_, rfl⟩
  have hv : s.funlike l = Ar.flay (P.2.headD (0, 0)).1 0 P.1 (-1) (P.2.map (·.1)) := by rw [Ar.funlike, hP]
  rw [hv]
  rw [hN] at hl hV H ⊢
  have HN := Lib.hid hN
  have HP := Lib.hid hP
  clear hN hP hv
  have H := Lib.hid (pT_new (T := 216) H.out)
  refine callsR fun R hR => ?_
  go_enter Tryz.func196, Tryz.ntmps196
  go_upto_block 0 with fail
  go_cut [5] (fun v5 wx => ∃ u, u + 17 * P.2.length ≤ 18 * N ∧ P.2.length ≤ N ∧ Hid (Led B w0 wx (X.es vf (P.1.tick (t + u)) ++ pT 216 v5 P.2 :: iT (.slice V N cv) l :: C)))
  case first =>
    go_wp2_with fail
    go_loopw [5, 17] (fun v5 x wx => ∃ (j : Nat) (Bv : List (Int × Int)) (sj : Ar) (u : Nat), j ≤ N ∧ x = .int .i64 (j : Int) ∧ lenV v5 = Bv.length ∧ Bv.length ≤ j ∧ u + 17 * Bv.length ≤ 18 * j ∧ Hid (sj.fcarry Bv (l.drop j) = P) ∧ Hid (sj.RB (K + (j - Bv.length : Nat))) ∧ Hid (∀ y, y ∈ Bv → -1 ≤ y.2 ∧ y.2 ≤ K + (j - Bv.length : Nat)) ∧ Hid (Led B w0 wx (X.es vf (sj.tick (t + u)) ++ pT 216 v5 Bv :: iT (.slice V N cv) l :: C))) (fun _ x _ => N - (intOf x).toNat)
    case atStart => exact ⟨0, [], s, 0, by omega, rfl, rfl, by simp, by simp, Lib.hid (by rw [List.drop_zero]; exact HP.out), Lib.hid (by simpa using HRB.out), Lib.hid (by simp), H⟩
    case round =>
      clear H
      obtain ⟨j, Bv, sj, u, hj, rfl, hlv, hBj, hu, HE, HR2, HBq, H⟩ := hrel
      obtain ⟨V5, c5, hv5, _⟩ := pT_form (pT_tab H.out)
      subst hv5
      obtain ⟨bl, hbl⟩ : ∃ k, Bv.length = k := ⟨_, rfl⟩
      rw [hbl] at hlv hBj hu H HR2 HBq ⊢
      have HBL := Lib.hid hbl
      clear hbl hlv
      by_cases hlt : j < N
      · obtain ⟨n, hn⟩ : ∃ n, l[j]? = some n := ⟨_, List.getElem?_eq_getElem (by rw [HN.out]; exact hlt)⟩
        obtain ⟨g, rfl⟩ := hV (by omega)
        have t1 := iT_get (iT_tab (A := X.es vf (sj.tick (t + u)) ++ [pT 216 (.slice V5 bl c5) Bv]) (by simpa using H.out)) hn
        have he := HE.out
        rw [List.drop_eq_getElem_cons (by rw [HN.out]; exact hlt), (List.getElem?_eq_some_iff.1 hn).2, Ar.fcarry] at he
        have HE2 := Lib.hid he
        have HQ := Lib.hid (HR2.out.get (by omega) n)
        clear he HE hn hV
        go_upto_block 2 with (first | (go_at_call 110; refine Calls.mono (t_get _ _ _ _ _ (by decide) H.out) ?_; rintro e w' ⟨rfl, h'⟩; replace H := Lib.hid h'; clear h'))
        obtain ⟨b8, hb8⟩ : ∃ b, w'.heap.size = b := ⟨_, rfl⟩
        obtain ⟨q0, hq0⟩ : ∃ q, sj.get n 4 = q := ⟨_, rfl⟩
        rw [hq0] at HQ HE2 ⊢
        have h2 : Led B w0 (w'.alloc (.cells #[.int .i64 n, .int .i64 q0] 216)) (X.es vf (sj.tick (t + u + 1)) ++ blkE b8 216 #[.int .i64 n, .int .i64 q0] :: pT 216 (.slice V5 bl c5) Bv :: iT (.slice (some ⟨g, 0, none⟩) N cv) l :: C) := by rw [← hb8]; exact H.out.insert (blkE w'.heap.size 216 #[.int .i64 n, .int .i64 q0]) ((Below.refl _ _).alloc (Nat.le_refl _) _) (Blk.new _ _ _) (fun b hb => by simp [blkE] at hb; omega)
        replace H := Lib.hid h2
        clear h2
        rw [hb8]
        generalize w'.alloc (.cells #[.int .i64 n, .int .i64 q0] 216) = w1 at *
        clear hb8 hq0 t1
        obtain ⟨M, hM⟩ : ∃ M, Ar.fmerge Bv.length sj Bv n q0 = M := ⟨_, rfl⟩
        rw [hM] at HE2
        have HM := Lib.hid hM
        clear hM
        go_cut [5] (fun v5 wx => ∃ (B2 : List (Int × Int)) (n2 q2 : Int) (s2 : Ar) (u2 : Nat), (s2, B2 ++ [(n2, q2)]) = M ∧ lenV v5 = B2.length ∧ B2.length ≤ j ∧ u2 + 17 * B2.length ≤ 18 * j + 1 ∧ Hid (s2.RB (K + (j - B2.length : Nat))) ∧ Hid (∀ y, y ∈ B2 ++ [(n2, q2)] → -1 ≤ y.2 ∧ y.2 ≤ K + (j - B2.length : Nat)) ∧ Hid (Led B w0 wx (X.es vf (s2.tick (t + u2)) ++ blkE b8 216 #[.int .i64 n2, .int .i64 q2] :: pT 216 v5 B2 :: iT (.slice (some ⟨g, 0, none⟩) N cv) l :: C)))
        case first =>
          go_wp2_with fail
          go_loopw [5] (fun v5 wx => ∃ (B2 : List (Int × Int)) (n2 q2 : Int) (s2 : Ar) (u2 : Nat), Hid (Ar.fmerge B2.length s2 B2 n2 q2 = M) ∧ lenV v5 = B2.length ∧ B2.length ≤ bl ∧ u2 + 17 * B2.length ≤ 18 * j + 1 ∧ Hid (s2.RB (K + (j - B2.length : Nat))) ∧ Hid (-1 ≤ q2 ∧ q2 ≤ K + (j - B2.length : Nat)) ∧ Hid (∀ y, y ∈ B2 → -1 ≤ y.2 ∧ y.2 ≤ K + (j - B2.length : Nat)) ∧ Hid (Led B w0 wx (X.es vf (s2.tick (t + u2)) ++ blkE b8 216 #[.int .i64 n2, .int .i64 q2] :: pT 216 v5 B2 :: iT (.slice (some ⟨g, 0, none⟩) N cv) l :: C))) (fun v5 _ => lenV v5)
          case atStart => exact ⟨Bv, n, q0, sj, u + 1, HM, by rw [HBL.out]; rfl, by rw [HBL.out]; exact Nat.le_refl _, by rw [HBL.out]; omega, Lib.hid (by rw [HBL.out]; exact HR2.out), Lib.hid (by rw [HBL.out]; exact HQ.out), Lib.hid (by rw [HBL.out]; exact HBq.out), H⟩
          case round =>
            clear H
            obtain ⟨B2, n2, q2, s2, u2, HM2, hlv2, hB2, hu2, HR3, HQ3, HB3, H⟩ := hrel
            have hq1 := HQ3.out
            obtain ⟨V6, c6, hv6, hV6⟩ := pT_form (pT_tab (A := X.es vf (s2.tick (t + u2)) ++ [blkE b8 216 #[.int .i64 n2, .int .i64 q2]]) (by simpa using H.out))
            subst hv6
            clear hlv2
            have hB2l : B2.length ≤ 1000000 := by omega
            cases hp : pidx q2 B2 with
            | none =>
              have hm := HM2.out
              rw [fmerge_none s2 n2 hp] at hm
              have HMM := Lib.hid hm
              clear hm HM2
              go_wp2_with (first | (go_at_call 217; refine Calls.mono (un_index _ _ _ _ _ hB2l H.out) ?_; rintro e w' ⟨rfl, h'⟩; replace H := Lib.hid h'; clear h'; rw [hp, pnum]))
              go_meet
              case rel => exact ⟨B2, n2, q2, s2, u2, HMM.out, rfl, by omega, hu2, HR3, Lib.hid (fun y hy => by rcases List.mem_append.1 hy with hy | hy; exact HB3.out y hy; simp at hy; subst hy; exact hq1), H⟩
            | some i =>
              obtain ⟨y, hy, hyq⟩ := pidx_lt hp
              have hil : i < B2.length := (List.getElem?_eq_some_iff.1 hy).1
              obtain ⟨g6, rfl⟩ := hV6 (by omega)
              have hm := HM2.out
              have hgd : B2.getD i (0, 0) = y := by rw [List.getD_eq_getElem?_getD, hy]; rfl
              rw [show B2.length = (B2.length - 1) + 1 by omega, Ar.fmerge, hp] at hm
              simp only [hgd] at hm
              have hel : (B2.eraseIdx i).length = B2.length - 1 := by rw [List.length_eraseIdx, if_pos hil]
              obtain ⟨B3, hB3⟩ : ∃ B3, B2.eraseIdx i = B3 := ⟨_, rfl⟩
              rw [hB3] at hel hm
              have HE3 := Lib.hid hB3
              clear hB3
              have HMM := Lib.hid hm
              have HEL := Lib.hid hel
              have HY := Lib.hid hy
              clear hm HM2 hgd hV6 hyq hel hy
              go_upto_region 8 with (first | (go_at_call 217; refine Calls.mono (un_index _ _ _ _ _ hB2l H.out) ?_; rintro e w' ⟨rfl, h'⟩; replace H := Lib.hid h'; clear h'; rw [hp, pnum]))
              obtain ⟨t0, t1⟩ := pT_get (pT_tab (A := X.es vf (s2.tick (t + u2)) ++ [blkE b8 216 #[.int .i64 n2, .int .i64 q2]]) (by simpa using H.out)) HY.out
              have hbb : Blk w' b8 216 #[.int .i64 n2, .int .i64 q2] := H.out.mem
              obtain ⟨c0, c1, fc0, fc1⟩ := hbb.c2
              have lb8 := hbb.lt
              clear hbb
              go_region_held3 (fun wx => wx.cell? ⟨g6, i * 2, none⟩ = some (.int .i64 y.1) ∧ wx.cell? ⟨b8, 0, none⟩ = some (.int .i64 n2)) (exact ⟨t0, c0⟩) (fail)
              replace H := Lib.hid H.out.drew
              generalize w'.drew = w2 at *
              clear t0 t1 c0 c1 fc0 fc1 lb8
              have hw : IntKind.i64.wrap ((i : Int) + 1) = (i : Int) + 1 := by rw [IntKind.wrap_i64]; omega
              have hw2 : IntKind.i64.wrap (q2 + 1) = q2 + 1 := by rw [IntKind.wrap_i64]; omega
              have hrb3 := HR3.out
              cases gd : s2.nbefore n2 y.1 with
              | true =>
                have hm := HMM.out
                simp only [gd, if_true] at hm
                rw [← HEL.out] at hm
                have HM3 := Lib.hid hm
                have HRB3 := Lib.hid hrb3
                clear hm HMM hrb3
                go_upto_region 13 with (first | (go_at_call 219; refine Calls.mono (un_delete (A := X.es vf (s2.tick (t + u2)) ++ [blkE b8 216 #[.int .i64 n2, .int .i64 q2]]) i _ B2 hil hB2l (by simpa using H.out)) ?_; rintro e w' ⟨v9, rfl, h'⟩; rw [HE3.out] at h'; have h8 : Led B w0 w' (X.es vf (s2.tick (t + u2)) ++ blkE b8 216 #[.int .i64 n2, .int .i64 q2] :: pT 216 v9 B3 :: iT (.slice (some ⟨g, 0, none⟩) N cv) l :: C) := (by simpa using h'); obtain ⟨V9, c9, hv9, _⟩ := pT_form (pT_tab h'); subst hv9; replace H := Lib.hid h8; clear h8 h') | (go_at_call 164; refine Calls.mono (node_before _ _ _ _ _ H.out) ?_; rintro e w' ⟨rfl, h'⟩; replace H := Lib.hid h'; clear h'; rw [gd]) | (go_at_call 220; refine Calls.mono (fb_under _ _ _ _ _ H.out) ?_; rintro e w' ⟨u, hu, rfl, h'⟩; replace H := Lib.hid h'; clear h'))
                have hbb : Blk w' b8 216 #[.int .i64 n2, .int .i64 q2] := H.out.mem
                obtain ⟨c0, c1, fc0, fc1⟩ := hbb.c2
                have lb8 := hbb.lt
                clear hbb
                go_upto_region 14 with fail
                have h8 := led_cell (A := X.es vf (Ar.tick _ _)) 1 (.int .i64 (q2 + 1)) (led_cell (A := X.es vf (Ar.tick _ _)) 0 (.int .i64 n2) H.out)
                replace H := Lib.hid (show Led B w0 ((w'.setCell ⟨b8, 0, none⟩ (.int .i64 n2)).setCell ⟨b8, 1, none⟩ (.int .i64 (q2 + 1))) (X.es vf ((s2.funder y.1 n2).tick (t + u2 + 6 + u)) ++ blkE b8 216 #[.int .i64 n2, .int .i64 (q2 + 1)] :: pT 216 (.slice V9 B3.length c9) B3 :: iT (.slice (some ⟨g, 0, none⟩) N cv) l :: C) from h8)
                clear h8 c0 c1 fc0 fc1 lb8
                generalize ((w'.setCell ⟨b8, 0, none⟩ (.int .i64 n2)).setCell ⟨b8, 1, none⟩ (.int .i64 (q2 + 1))) = w3 at *
                have hbb : Blk w3 b8 216 #[.int .i64 n2, .int .i64 (q2 + 1)] := H.out.mem
                obtain ⟨c0, c1, fc0, fc1⟩ := hbb.c2
                clear hbb
                go_wp2_with (first | (go_at_call 89; refine Calls.mono (t_set _ _ _ _ _ _ (by decide) H.out) ?_; rintro e w' ⟨rfl, h'⟩; replace H := Lib.hid h'; clear h'))
                go_roundw
                case rel =>
                  have hel := HEL.out
                  have hnat : K + ((j - B3.length : Nat) : Int) = K + ((j - B2.length : Nat) : Int) + 1 := by omega
                  refine ⟨B3, n2, q2 + 1, _, u2 + 6 + u + 1, HM3, rfl, by omega, by omega, Lib.hid ?_, Lib.hid ?_, Lib.hid ?_, ?_⟩
                  · rw [hnat]; exact (((HRB3.out.mono (show _ ≤ K + ((j - B2.length : Nat) : Int) + 1 by omega)).funder _ _).rank _ _ (by omega) (by omega))
                  · rw [hnat]; omega
                  · intro z hz; rw [hnat, ← HE3.out] at *; have := HB3.out z (List.mem_of_mem_eraseIdx hz); omega
                  · have h9 := H.out; rw [show t + u2 + 6 + u + 1 = t + (u2 + 6 + u + 1) by omega] at h9; exact Lib.hid h9
                case measure => have hel := HEL.out; simp [lenV]; omega
              | false =>
                have hm := HMM.out
                simp only [gd, Bool.false_eq_true, if_false] at hm
                rw [← HEL.out] at hm
                have HM3 := Lib.hid hm
                have HRB3 := Lib.hid hrb3
                clear hm HMM hrb3
                go_upto_region 13 with (first | (go_at_call 219; refine Calls.mono (un_delete (A := X.es vf (s2.tick (t + u2)) ++ [blkE b8 216 #[.int .i64 n2, .int .i64 q2]]) i _ B2 hil hB2l (by simpa using H.out)) ?_; rintro e w' ⟨v9, rfl, h'⟩; rw [HE3.out] at h'; have h8 : Led B w0 w' (X.es vf (s2.tick (t + u2)) ++ blkE b8 216 #[.int .i64 n2, .int .i64 q2] :: pT 216 v9 B3 :: iT (.slice (some ⟨g, 0, none⟩) N cv) l :: C) := (by simpa using h'); obtain ⟨V9, c9, hv9, _⟩ := pT_form (pT_tab h'); subst hv9; replace H := Lib.hid h8; clear h8 h') | (go_at_call 164; refine Calls.mono (node_before _ _ _ _ _ H.out) ?_; rintro e w' ⟨rfl, h'⟩; replace H := Lib.hid h'; clear h'; rw [gd]) | (go_at_call 220; refine Calls.mono (fb_under _ _ _ _ _ H.out) ?_; rintro e w' ⟨u, hu, rfl, h'⟩; replace H := Lib.hid h'; clear h'))
                have hbb : Blk w' b8 216 #[.int .i64 n2, .int .i64 q2] := H.out.mem
                obtain ⟨c0, c1, fc0, fc1⟩ := hbb.c2
                have lb8 := hbb.lt
                clear hbb
                go_upto_region 14 with fail
                have h8 := led_cell (A := X.es vf (Ar.tick _ _)) 1 (.int .i64 (q2 + 1)) (led_cell (A := X.es vf (Ar.tick _ _)) 0 (.int .i64 y.1) H.out)
                replace H := Lib.hid (show Led B w0 ((w'.setCell ⟨b8, 0, none⟩ (.int .i64 y.1)).setCell ⟨b8, 1, none⟩ (.int .i64 (q2 + 1))) (X.es vf ((s2.funder n2 y.1).tick (t + u2 + 6 + u)) ++ blkE b8 216 #[.int .i64 y.1, .int .i64 (q2 + 1)] :: pT 216 (.slice V9 B3.length c9) B3 :: iT (.slice (some ⟨g, 0, none⟩) N cv) l :: C) from h8)
                clear h8 c0 c1 fc0 fc1 lb8
                generalize ((w'.setCell ⟨b8, 0, none⟩ (.int .i64 y.1)).setCell ⟨b8, 1, none⟩ (.int .i64 (q2 + 1))) = w3 at *
                have hbb : Blk w3 b8 216 #[.int .i64 y.1, .int .i64 (q2 + 1)] := H.out.mem
                obtain ⟨c0, c1, fc0, fc1⟩ := hbb.c2
                clear hbb
                go_wp2_with (first | (go_at_call 89; refine Calls.mono (t_set _ _ _ _ _ _ (by decide) H.out) ?_; rintro e w' ⟨rfl, h'⟩; replace H := Lib.hid h'; clear h'))
                go_roundw
                case rel =>
                  have hel := HEL.out
                  have hnat : K + ((j - B3.length : Nat) : Int) = K + ((j - B2.length : Nat) : Int) + 1 := by omega
                  refine ⟨B3, y.1, q2 + 1, _, u2 + 6 + u + 1, HM3, rfl, by omega, by omega, Lib.hid ?_, Lib.hid ?_, Lib.hid ?_, ?_⟩
                  · rw [hnat]; exact (((HRB3.out.mono (show _ ≤ K + ((j - B2.length : Nat) : Int) + 1 by omega)).funder _ _).rank _ _ (by omega) (by omega))
                  · rw [hnat]; omega
                  · intro z hz; rw [hnat, ← HE3.out] at *; have := HB3.out z (List.mem_of_mem_eraseIdx hz); omega
                  · have h9 := H.out; rw [show t + u2 + 6 + u + 1 = t + (u2 + 6 + u + 1) by omega] at h9; exact Lib.hid h9
                case measure => have hel := HEL.out; simp [lenV]; omega
        case rest =>
          clear H
          obtain ⟨B2, n2, q2, s2, u2, hM2, hlv2, hB2, hu2, HR3, HB3, H⟩ := hcut
          obtain ⟨V6, c6, hv6, _⟩ := pT_form (pT_tab (A := X.es vf (s2.tick (t + u2)) ++ [blkE b8 216 #[.int .i64 n2, .int .i64 q2]]) (by simpa using H.out))
          subst hv6
          have HM2 := Lib.hid hM2
          clear hM2 hlv2
          have hln : (pR B2).length ≤ 1000000000 := by rw [pR_len]; omega
          have hbb : Blk wc b8 216 #[.int .i64 n2, .int .i64 q2] := H.out.mem
          obtain ⟨c0, c1, fc0, fc1⟩ := hbb.c2
          have lb8 := hbb.lt
          clear hbb
          have h8 : Led B w0 wc (X.es vf (s2.tick (t + u2)) ++ pT 216 (.slice V6 B2.length c6) B2 :: iT (.slice (some ⟨g, 0, none⟩) N cv) l :: C) := iT_drop H.out
          have H8 := Lib.hid h8
          clear h8
          go_wp2_with (first | (at_builtin; refine wpList_push (by rfl) (.tmp 63) (.tmp 65) 214 (by rfl) 0 216 _ 2 16 Tryz.underlying214 info_rk (by rfl) (by decide) (.slice V6 B2.length c6) (pR B2) #[.int .i64 n2, .int .i64 q2] (by rfl) (pT_tab H8.out) (by rfl) (by rfl) (by simp [Value.oneCell']) hln (by decide) (Nat.zero_le _) ?_; intro v' w' p1 p2 p3; replace H := Lib.hid (pT_push H8.out p1 p2 p3); obtain ⟨A', c', hv, _⟩ := p1.form; simp only [List.length_append, List.length_singleton, pR_len] at hv; subst hv; clear p1 p2 p3))
          go_roundw
          case rel =>
            refine ⟨j + 1, B2 ++ [(n2, q2)], s2, u2, by omega, by go_num, by simp [lenV], by simp; omega, by simp; omega, Lib.hid ?_, Lib.hid ?_, Lib.hid ?_, H⟩
            · have he := HE2.out; rw [← HM2.out] at he; exact he
            · rw [show j + 1 - (B2 ++ [(n2, q2)]).length = j - B2.length by simp]; exact HR3.out
            · rw [show j + 1 - (B2 ++ [(n2, q2)]).length = j - B2.length by simp]; exact HB3.out
          case measure => simp [intOf] <;> omega
      · obtain rfl : j = N := by omega
        have he := HE.out
        rw [List.drop_of_length_le (by rw [HN.out]; omega), Ar.fcarry] at he
        have HE2 := Lib.hid he
        clear he HE hV
        go_wp2_with fail
        go_meet
        case rel => rw [← HE2.out]; exact ⟨u, by rw [HBL.out]; exact hu, by rw [HBL.out]; exact hBj, H⟩
  case rest =>
    clear H
    obtain ⟨u0, hu0, hMN, H⟩ := hcut
    obtain ⟨p1, Q⟩ := P
    simp only at hu0 hMN H ⊢
    obtain ⟨V5, c5, hv5, hV5⟩ := pT_form (pT_tab H.out)
    subst hv5
    obtain ⟨M, hM⟩ : ∃ M, Q.length = M := ⟨_, rfl⟩
    rw [hM] at hV5 hu0 hMN H ⊢
    have HM := Lib.hid hM
    clear hM
    obtain ⟨f0, hf0⟩ : ∃ f, (Q.headD (0, 0)).1 = f := ⟨_, rfl⟩
    have HF0 := Lib.hid hf0
    have hR2 := hR
    obtain ⟨G, hG⟩ : ∃ G, Ar.flay f0 0 p1 (-1) (Q.map (·.1)) = G := ⟨_, rfl⟩
    rw [hf0, hG] at hR
    clear hR2 hf0
    have HG := Lib.hid hG
    clear hG
    go_wp2_with fail
    go_loopw [12, 70] (fun x y wx => ∃ (j : Nat) (root : Int) (sj : Ar) (u : Nat), j ≤ M ∧ x = .int .i64 root ∧ y = .int .i64 (j : Int) ∧ u ≤ 13 * j ∧ Hid (Ar.flay f0 (min j 1) sj root ((Q.drop j).map (·.1)) = G) ∧ Hid (Led B w0 wx (X.es vf (sj.tick (t + u0 + u)) ++ pT 216 (.slice V5 M c5) Q :: iT (.slice V N cv) l :: C))) (fun _ y _ => M - (intOf y).toNat)
    case atStart => exact ⟨0, -1, p1, 0, by omega, rfl, rfl, by omega, Lib.hid (by rw [List.drop_zero]; exact HG.out), H⟩
    case round =>
      clear H
      obtain ⟨j, root, sj, u, hj, rfl, rfl, hu, HE, H⟩ := hrel
      by_cases hlt : j < M
      · obtain ⟨y, hy⟩ : ∃ y, Q[j]? = some y := ⟨_, List.getElem?_eq_getElem (by rw [HM.out]; exact hlt)⟩
        obtain ⟨g5, rfl⟩ := hV5 (by omega)
        obtain ⟨t0, t1⟩ := pT_get (pT_tab H.out) hy
        have he := HE.out
        rw [List.drop_eq_getElem_cons (by rw [HM.out]; exact hlt), (List.getElem?_eq_some_iff.1 hy).2, List.map_cons] at he
        have HY := Lib.hid hy
        clear hy hV5
        go_upto_region 21 with fail
        obtain ⟨b9, hb9⟩ : ∃ b, wr.heap.size = b := ⟨_, rfl⟩
        have h2 : Led B w0 (wr.alloc (.cells #[.int .i64 y.1, .int .i64 y.2] 216)) (X.es vf (sj.tick (t + u0 + u)) ++ blkE b9 216 #[.int .i64 y.1, .int .i64 y.2] :: pT 216 (.slice (some ⟨g5, 0, none⟩) M c5) Q :: iT (.slice V N cv) l :: C) := by rw [← hb9]; exact H.out.insert (blkE wr.heap.size 216 #[.int .i64 y.1, .int .i64 y.2]) ((Below.refl _ _).alloc (Nat.le_refl _) _) (Blk.new _ _ _) (fun b hb => by simp [blkE] at hb; omega)
        replace H := Lib.hid h2
        clear h2
        rw [hb9]
        generalize wr.alloc (.cells #[.int .i64 y.1, .int .i64 y.2] 216) = w1 at *
        clear hb9 t0 t1
        have hbb : Blk w1 b9 216 #[.int .i64 y.1, .int .i64 y.2] := H.out.mem
        obtain ⟨c0, c1, fc0, fc1⟩ := hbb.c2
        clear hbb
        rcases j with _ | j
        · rw [show min 0 1 = 0 from rfl, Ar.flay] at he
          have HE2 := Lib.hid he
          clear he HE
          go_wp2_with (first | (go_at_call 147; refine Calls.mono (ch_one _ _ _ _ H.out) ?_; rintro e w' ⟨rfl, h'⟩; replace H := Lib.hid h'; clear h'; have hbb : Blk w' b9 216 #[.int .i64 y.1, .int .i64 y.2] := H.out.mem; have c0 := hbb.cell 0; clear hbb))
          replace H := Lib.hid (iT_drop H.out)
          go_roundw
          case rel => exact ⟨1, y.1, _, u + 2, by omega, by go_num, by go_num, by omega, HE2, Lib.hid (by have h9 := H.out; rw [Nat.add_assoc (t + u0) u 2] at h9; exact h9)⟩
          case measure => simp [intOf] <;> omega
        · rw [show min (j + 1) 1 = 0 + 1 by omega, Ar.flay] at he
          have HE2 := Lib.hid he
          clear he HE
          obtain ⟨y0, hy0⟩ : ∃ y0, Q[0]? = some y0 := ⟨_, List.getElem?_eq_getElem (by rw [HM.out]; omega)⟩
          have hyf : y0.1 = f0 := by have := HF0.out; cases Q with | nil => simp at hy0 | cons z Q => simp at hy0; rw [← hy0, ← this]; rfl
          have HY0 := Lib.hid hy0
          have HYF := Lib.hid hyf
          clear hy0 hyf
          have g3 : (((j + 1 : Nat) : Int) == 0) = false := by simp; omega
          have g4 : ((j : Int) + 1 == 0) = false := by simp; omega
          go_upto_region 24 with (first | (go_at_call 147; refine Calls.mono (ch_one _ _ _ _ H.out) ?_; rintro e w' ⟨rfl, h'⟩; replace H := Lib.hid h'; clear h'; have hbb : Blk w' b9 216 #[.int .i64 y.1, .int .i64 y.2] := H.out.mem; have c0 := hbb.cell 0; clear hbb))
          have KS : Hid (∀ W st T1, Led B w0 W (X.es vf (Ar.tick st T1) ++ blkE b9 216 #[.int .i64 y.1, .int .i64 y.2] :: pT 216 (.slice (some ⟨g5, 0, none⟩) M c5) Q :: iT (.slice V N cv) l :: C) → W.cell? ⟨g5, 0, none⟩ = some (.int .i64 f0) ∧ W.cell? ⟨b9, 0, none⟩ = some (.int .i64 y.1)) := Lib.hid fun W st T1 hW => ⟨by have := (pT_get (pT_tab (A := X.es vf (Ar.tick st T1) ++ [blkE b9 216 #[.int .i64 y.1, .int .i64 y.2]]) (by simpa using hW)) HY0.out).1; rw [HYF.out] at this; simpa using this, by have hbb : Blk W b9 216 #[.int .i64 y.1, .int .i64 y.2] := hW.mem; exact hbb.cell 0⟩
          have k0 := KS.out _ _ _ H.out.drew
          clear c0
          have i1 : (0 : Int) < (M : Int) := by omega
          have i2 : 0 < M := by omega
          have i3 : (0 : Int) ≤ 0 := Int.le_refl 0
          go_region_held3 (fun wx => wx.cell? ⟨g5, 0, none⟩ = some (.int .i64 f0) ∧ wx.cell? ⟨b9, 0, none⟩ = some (.int .i64 y.1)) (first | with_reducible exact k0 | with_reducible exact k1) (first | (go_at_call 148; refine Calls.mono (ch_put _ _ _ _ _ H.out.drew) ?_; rintro e w' ⟨rfl, h'⟩; replace H := Lib.hid h'; have k1 := KS.out _ _ _ h'; clear h'))
          have c0 := (KS.out _ _ _ H.out).2
          go_wp2_with (first | (go_at_call 149; refine Calls.mono (fb_lesser _ _ _ _ _ H.out) ?_; rintro e w' ⟨rfl, h'⟩; replace H := Lib.hid h'; clear h'))
          replace H := Lib.hid (iT_drop H.out)
          go_roundw
          case rel => exact ⟨j + 2, _, _, u + 13, by omega, rfl, by go_num, by omega, Lib.hid (by rw [show min (j + 2) 1 = 1 by omega]; exact HE2.out), Lib.hid (by have h9 := H.out; rw [show t + u0 + u + 2 + 5 + 6 = t + u0 + (u + 13) by omega] at h9; exact h9)⟩
          case measure => simp [intOf] <;> omega
      · obtain rfl : j = M := by omega
        have he := HE.out
        rw [List.drop_of_length_le (by rw [HM.out]; omega), List.map_nil] at he
        have he2 : (sj, root) = G := by rw [← he]; cases j with | zero => rfl | succ j => rw [show min (j + 1) 1 = 0 + 1 by omega]; rfl
        have HE2 := Lib.hid he2
        clear he HE he2 hV5
        go_wp2_with fail
        have h7 : Led B w0 wr (X.es vf (sj.tick (t + u0 + u)) ++ C) := iT_drop (iT_drop H.out)
        obtain ⟨u9, hu9, h9⟩ := tick_up (t := t) (N := 18 * N) h7 (by omega) (by omega)
        exact hR.out _ _ ⟨u9, hu9, by rw [← HE2.out] <;> rfl, by rw [← HE2.out]; exact h9⟩
end
end Go.Proofs.YtognmhgdegpdiaaGreat
end
section
/- Fibonacci heaps: Pop. -/
namespace Go.Proofs.YtognmhgdegpdiaaGreat
open Go.RowKit
set_option linter.unusedVariables false
set_option linter.unusedSimpArgs false
set_option maxRecDepth 100000
section
variable {P : Program} {ops : Array Oper} {Q : Exit → Act → World → Prop} {B : Nat} {w0 : World}
theorem wp_appendAll {o : Oper} {st e : TypeId} {sz by_ : Nat} {z : Value} {s x : Operand} {v u : Value} {L M : List (List Value)} {K : Act → World → Prop} {a : Act} {w : World} {es fs : List Ent}
    (ho : o.op = .call { callee := .builtin .append, args := #[s, x], argTypes := #[st, st] }) (hu : P.underlying st = some (.slice e)) (hinfo : (P.info? e).map (fun i => (i.zero, i.size, i.bytes)) = some (some z, sz, by_)) (hzs : z.cells.size = sz) (hpos : 0 < sz) (hby : by_ ≤ 1000)
    (hlen : L.length + M.length ≤ 1000000000) (h1 : ∀ c ∈ M, ∀ u ∈ c, u.oneCell' = true) (hs : a.eval s = v) (hx : a.eval x = u)
    (h : Led B w0 w (es ++ tabE e sz v L :: fs)) (hm : tabE e sz u M ∈ es ++ fs) (hK : ∀ v' w', Led B w0 w' (es ++ tabE e sz v' (L ++ M) :: fs) → K (a.put o.dst v') w') : o.wp P a w K Q := by
  have htab : TabIs w 0 e sz v L := h.mem
  have hsrc : TabIs w 0 e sz u M := h.all (tabE e sz u M) (by
    rcases List.mem_append.1 hm with h2 | h2
    · simp [h2]
    · simp [h2])
  obtain ⟨i', i1, i2, i3, i4⟩ := info_parts hinfo
  obtain ⟨xs, ho1, hL, hc, hll⟩ := htab.parts
  obtain ⟨ys, ho2, hM, hc2, hll2⟩ := hsrc.parts
  obtain ⟨A, cap, hue, _, _⟩ := hsrc.form
  subst hue
  have hone : ∀ y ∈ ys, y.oneCell' = true := by
    intro y hy
    obtain ⟨k, hk⟩ := List.getElem?_of_mem hy
    have hkl := (List.getElem?_eq_some_iff.1 hk).1
    rw [hll2] at hkl
    have hkd : k / sz < M.length := Nat.div_lt_of_lt_mul (by rw [Nat.mul_comm]; exact hkl)
    have hkm : k % sz < sz := Nat.mod_lt _ hpos
    have hrow := List.getElem?_eq_getElem hkd
    have hcl := hM _ (List.mem_of_getElem? hrow)
    have hcell := hc2 _ _ hrow (k % sz) _ (List.getElem?_eq_getElem (by omega))
    rw [show k / sz * sz + k % sz = k by rw [Nat.mul_comm]; exact Nat.div_add_mod k sz] at hcell
    rw [hk] at hcell
    injection hcell with hcell
    rw [hcell]
    exact h1 _ (List.mem_of_getElem? hrow) _ (List.getElem_mem _)
  have hbytes : (L.length + M.length) * by_ ≤ 140737488355328 := Nat.le_trans (Nat.mul_le_mul hlen hby) (by decide)
  obtain ⟨v', w', hr, h2, h3, h5⟩ := run_append_any (P := P) w 0 st o.type e i' z sz by_ hu i1 i2 i3 i4 hzs hpos v L.length xs ho1 w.heap.size A M.length cap ys (tab_reads ho2) hone (by unfold maxLen; omega) hbytes (Nat.zero_le _)
  unfold Oper.wp execOp
  simp only [ho, resolve, invoke, builtin, Sem.run_bind, Sem.run_pure, Result.andThen_ok, List.map_toArray, List.map_cons, List.map_nil, hs, hx, hr]
  show K (a.put o.dst v') w'
  refine hK v' w' ?_
  refine h.mid _ ((Chg.refl (tabE e sz v L).fp w).grown h3 (fun k hk => .inl (by simp [tabE, hk]))) (tab_concat hL hM hc hc2 hll h2) (fun b hb => ?_)
  rcases h5 with h5 | h5
  · exact .inl (by simpa [tabE, h5] using hb)
  · simp [tabE, h5] at hb
    exact .inr (by omega)
theorem wpList_appendAll {o : Oper} {rest : List Oper} {st e : TypeId} {sz by_ : Nat} {z : Value} (s x : Operand) (v u : Value) (L M : List (List Value)) {a : Act} {w : World} (es fs : List Ent) (hgd : o.guard = none)
    (ho : o.op = .call { callee := .builtin .append, args := #[s, x], argTypes := #[st, st] }) (hu : P.underlying st = some (.slice e)) (hinfo : (P.info? e).map (fun i => (i.zero, i.size, i.bytes)) = some (some z, sz, by_)) (hzs : z.cells.size = sz) (hpos : 0 < sz) (hby : by_ ≤ 1000)
    (hlen : L.length + M.length ≤ 1000000000) (h1 : ∀ c ∈ M, ∀ u ∈ c, u.oneCell' = true) (hs : a.eval s = v) (hx : a.eval x = u)
    (h : Led B w0 w (es ++ tabE e sz v L :: fs)) (hm : tabE e sz u M ∈ es ++ fs) (hK : ∀ v' w', Led B w0 w' (es ++ tabE e sz v' (L ++ M) :: fs) → wpList P ops Q rest (a.put o.dst v') w') : wpList P ops Q (o :: rest) a w :=
  wpList_plain hgd fun _ hK2 => wp_appendAll ho hu hinfo hzs hpos hby hlen h1 hs hx h hm fun v' w' h9 => hK2 _ _ (hK v' w' h9)
end
theorem iR_one (L : List Int) : ∀ c ∈ iR L, ∀ u ∈ c, u.oneCell' = true := by intro c hc u hu; obtain ⟨x, _, rfl⟩ := List.mem_map.1 hc; simp at hu; subst hu; rfl
theorem iR_app (L M : List Int) : iR L ++ iR M = iR (L ++ M) := by simp [iR]
def Ar.ups (s : Ar) (l : List Int) : Ar := l.foldl (fun s x => s.put x 0 (-1)) s
theorem Ar.ups_n (l : List Int) : ∀ s : Ar, (s.ups l).n = s.n := by induction l with | nil => intro s; rfl | cons x l ih => intro s; exact (ih _).trans (Ar.put_n _ _ _ _)
theorem Ar.Ok.ups {l : List Int} : ∀ {s : Ar}, s.Ok → (s.ups l).Ok := by induction l with | nil => intro s h; exact h | cons x l ih => intro s h; exact ih (h.put _ _ _)
theorem Ar.RB.ups {K : Int} {l : List Int} : ∀ {s : Ar}, s.RB K → (s.ups l).RB K := by induction l with | nil => intro s h; exact h | cons x l ih => intro s h; exact ih (h.put _ _ _ (by decide))
theorem Ar.RB.cout {s : Ar} {K : Int} (h : s.RB K) (c : Int) : (s.cout c).2.RB K := by unfold Ar.cout; split <;> simp only <;> first | exact h | exact (h.clink _ _).clink _ _
theorem Ar.RB.endNode {s : Ar} {K : Int} (h : s.RB K) (n : Int) : (s.endNode n).RB K := by
  have h2 := h.put (s.cell n 6) 9 (-1) (by decide)
  unfold Ar.endNode Ar.give
  split <;> exact h2
def Ar.fkids (s : Ar) (n : Int) : List Int := if s.cell n 1 = -1 then [] else s.ring (s.cell n 1)
def Ar.fout (s : Ar) (n : Int) : Int × Ar := (s.ups (s.fkids n)).cout n
def Ar.frest (s : Ar) (n : Int) : List Int := if (s.fout n).1 = -1 then s.fkids n else s.fkids n ++ (s.fout n).2.ring (s.fout n).1
def Ar.fpop (s : Ar) (n : Int) : Ar × Int × Int := ((((s.fout n).2.endNode n).funlike (s.frest n)).1, (((s.fout n).2.endNode n).funlike (s.frest n)).2, (s.fout n).2.cell n 6)
theorem Ar.fkids_le {s : Ar} (n : Int) (h : 1 ≤ s.n) : (s.fkids n).length ≤ s.n := by
  unfold Ar.fkids
  split
  · simp
  · exact s.ring_le _ h
theorem Ar.fout_n (s : Ar) (n : Int) : (s.fout n).2.n = s.n := by rw [Ar.fout, Ar.cout_n, Ar.ups_n]
section
variable {B : Nat} {w0 w : World} {C : List Ent} {vf : Value} (X : ArM) (s : Ar) (t : Nat)
set_option maxHeartbeats 8000000 in
theorem fb_pop (n : Int) (K : Int) (hrb : s.RB K) (hK : 0 ≤ K ∧ K ≤ 10000000) (hn : s.n ≤ 65536 ∧ 1 ≤ s.n) (hok : s.Ok) (h : Led B w0 w (X.es vf (s.tick t) ++ C)) :
    Calls Tryz.prog 158 #[.pointer (some ⟨X.p, 0, none⟩), .int .i64 n] w fun e w' => ∃ vf2 u, u ≤ 12 + 2 * (s.fkids n).length + 19 * (s.frest n).length ∧ e = .returned (.tuple #[.int .i64 (s.fpop n).2.1, .int .i64 (s.fpop n).2.2]) ∧ Led B w0 w' (X.es vf2 (((s.fpop n).1).tick (t + u)) ++ C) := by
  have HRB := Lib.hid hrb
  have HOK := Lib.hid hok
  clear hrb hok
  have hkl := s.fkids_le n hn.2
  obtain ⟨l1, hl1⟩ : ∃ l, s.fkids n = l := ⟨_, rfl⟩
  have HL1 := Lib.hid hl1
  rw [hl1] at hkl
  clear hl1
  have H := Lib.hid (iT_new h)
  clear h
  refine callsR fun R hR => ?_
  go_enter Tryz.func158, Tryz.ntmps158
  go_upto_if 16 with (first | (go_at_call 151; refine Calls.mono (t_cell _ _ _ _ _ (by decide) H.out) ?_; rintro e w' ⟨rfl, h'⟩; replace H := Lib.hid h'; clear h'))
  go_cut [6] (fun v wx => ∃ u, u ≤ 2 * l1.length ∧ Hid (Led B w0 wx (X.es vf ((s.ups l1).tick (t + 1 + u)) ++ iT v l1 :: C)))
  case first =>
    by_cases hd : s.cell n 1 = -1
    · have hl0 : l1 = [] := by rw [← HL1.out, Ar.fkids, if_pos hd]
      have g1 : (s.cell n 1 != -1) = false := by simpa using hd
      subst hl0
      clear hd
      go_wp2_with fail
      go_meet
      case rel => exact ⟨0, by simp, H⟩
    · have hl0 : s.ring (s.cell n 1) = l1 := by rw [← HL1.out, Ar.fkids, if_neg hd]
      have g1 : (s.cell n 1 != -1) = true := by simpa using hd
      obtain ⟨M, hM⟩ : ∃ M, l1.length = M := ⟨_, rfl⟩
      have HL0 := Lib.hid hl0
      have HM := Lib.hid hM
      have hMn : M ≤ s.n := by rw [← hM]; exact hkl
      clear hd hl0 hM hkl
      go_wp2_with (first | (go_at_call 194; refine Calls.mono (ch_all _ _ _ _ hn H.out) ?_; rintro e w' ⟨v9, rfl, h'⟩; rw [HL0.out] at h'; obtain ⟨A9, c9, hv9, hA9⟩ := iT_form (iT_tab h'); subst hv9; rw [HM.out] at h' hA9; rw [HM.out]; replace H := Lib.hid h'; clear h'))
      go_loopw [6, 21] (fun v x wx => ∃ j : Nat, j ≤ M ∧ x = .int .i64 (j : Int) ∧ lenV v = j ∧ Hid (Led B w0 wx (X.es vf ((s.ups (l1.take j)).tick (t + 1 + M + j)) ++ iT (.slice A9 M c9) l1 :: iT v (l1.take j) :: C))) (fun _ x _ => M - (intOf x).toNat)
      case atStart => exact ⟨0, by omega, rfl, rfl, H⟩
      case round =>
        clear H
        obtain ⟨j, hj, rfl, hlv, H⟩ := hrel
        by_cases hlt : j < M
        · obtain ⟨x, hx⟩ : ∃ x, l1[j]? = some x := ⟨_, List.getElem?_eq_getElem (by rw [HM.out]; exact hlt)⟩
          obtain ⟨g, rfl⟩ := hA9 (by omega)
          have t1 := iT_get (iT_tab H.out) hx
          have htl : (l1.take j).length = j := by rw [List.length_take, HM.out]; omega
          obtain ⟨A6, c6, hv6, _⟩ := iT_form (iT_tab (A := X.es vf ((s.ups (l1.take j)).tick (t + 1 + M + j)) ++ [iT (.slice (some ⟨g, 0, none⟩) M c9) l1]) (by simpa using H.out))
          rw [htl] at hv6
          subst hv6
          have hln : (iR (l1.take j)).length ≤ 1000000000 := by rw [iR_len, htl]; omega
          have hts : l1.take (j + 1) = l1.take j ++ [x] := by rw [List.take_add_one, hx]; rfl
          have HTS := Lib.hid hts
          have HTL := Lib.hid htl
          clear hx hA9 hlv hts htl
          go_wp2_with (first | (go_at_call 89; refine Calls.mono (t_set _ _ _ _ _ _ (by decide) H.out) ?_; rintro e w' ⟨rfl, h'⟩; replace H := Lib.hid h'; clear h') | (at_builtin; refine wpList_push (by rfl) (.tmp 28) (.tmp 30) 45 (by rfl) 0 3 _ 1 8 Tryz.underlying45 info_int_ (by rfl) (by decide) (.slice A6 j c6) (iR (l1.take j)) #[.int .i64 x] (by rfl) (iT_tab (A := X.es vf _ ++ [iT (.slice (some ⟨g, 0, none⟩) M c9) l1]) (by simpa using H.out)) (by rfl) (by rfl) (by simp [Value.oneCell']) hln (by decide) (Nat.zero_le _) ?_; intro v' w' p1 p2 p3; obtain ⟨A', c', hv, _⟩ := p1.form; simp only [List.length_append, List.length_singleton, iR_len, HTL.out] at hv; subst hv; replace H := Lib.hid (iT_push (A := X.es vf _ ++ [iT (.slice (some ⟨g, 0, none⟩) M c9) l1]) (by simpa using H.out) p1 p2 p3); clear p1 p2 p3))
          go_roundw
          case rel => exact ⟨j + 1, by omega, by go_num, rfl, Lib.hid (by have h9 := H.out; rw [← HTS.out, List.append_assoc] at h9; rw [Ar.ups, HTS.out, List.foldl_append]; rw [HTS.out] at h9; exact h9)⟩
          case measure => simp [intOf] <;> omega
        · obtain rfl : j = M := by omega
          clear hA9
          go_wp2_with fail
          go_meet
          case rel => exact ⟨2 * j, by rw [HM.out]; exact Nat.le_refl _, Lib.hid (by have h9 := iT_drop H.out; rw [List.take_of_length_le (by rw [HM.out]; omega)] at h9; rw [show t + 1 + 2 * j = t + 1 + j + j by omega]; exact h9)⟩
  case rest =>
    clear H
    obtain ⟨u0, hu0, H⟩ := hcut
    have hfo : s.fout n = (s.ups l1).cout n := by rw [Ar.fout, HL1.out]
    obtain ⟨fo, hfo2⟩ : ∃ z, (s.ups l1).cout n = z := ⟨_, rfl⟩
    rw [hfo2] at hfo
    obtain ⟨fr, hfr⟩ : ∃ z, s.frest n = z := ⟨_, rfl⟩
    have hfe : fr = if fo.1 = -1 then l1 else l1 ++ fo.2.ring fo.1 := by rw [← hfr, Ar.frest, hfo, HL1.out]
    have hpop : s.fpop n = (((fo.2.endNode n).funlike fr).1, ((fo.2.endNode n).funlike fr).2, fo.2.cell n 6) := by rw [Ar.fpop, hfo, hfr]
    rw [HL1.out, hfr, hpop] at hR
    have hfn : fo.2.n = s.n := by rw [← hfo, Ar.fout_n]
    have hrl : (fo.2.ring fo.1).length ≤ s.n := by rw [← hfn]; exact fo.2.ring_le _ (by rw [hfn]; exact hn.2)
    have HOK2 : Hid fo.2.Ok := Lib.hid (by rw [← hfo2]; exact Ar.Ok.cout (HOK.out.ups) n)
    have HRB2 : Hid ((fo.2.endNode n).RB K) := Lib.hid (by rw [← hfo2]; exact ((HRB.out.ups).cout n).endNode n)
    have HFN : Hid (fo.2.n ≤ 65536 ∧ 1 ≤ fo.2.n) := Lib.hid (by rw [hfn]; exact hn)
    have HFO := Lib.hid hfo2
    have HFE := Lib.hid hfe
    clear hfo hfo2 hfr hfe hpop hfn
    go_upto_if 37 with (first | (go_at_call 195; refine Calls.mono (ch_out _ _ _ _ H.out) ?_; rintro e w' ⟨u1, hu1, rfl, h'⟩; rw [HFO.out] at h' ⊢; replace H := Lib.hid h'; clear h'))
    obtain ⟨A6, c6, hv6, _⟩ := iT_form (iT_tab H.out)
    subst hv6
    go_cut [6] (fun v wx => ∃ u, u ≤ fr.length ∧ Hid (Led B w0 wx (X.es vf (fo.2.tick (t + 1 + u0 + u1 + u)) ++ iT v fr :: C)))
    case first =>
      by_cases hd : fo.1 = -1
      · have hl0 : fr = l1 := by rw [HFE.out, if_pos hd]
        have g1 : (fo.1 != -1) = false := by simpa using hd
        subst hl0
        clear hd
        go_wp2_with fail
        go_meet
        case rel => exact ⟨0, by omega, H⟩
      · have hl0 : fr = l1 ++ fo.2.ring fo.1 := by rw [HFE.out, if_neg hd]
        have g1 : (fo.1 != -1) = true := by simpa using hd
        have HL0 := Lib.hid hl0
        clear hd hl0
        have hlen : (iR l1).length + (iR (fo.2.ring fo.1)).length ≤ 1000000000 := by rw [iR_len, iR_len]; omega
        go_wp2_with (first | (go_at_call 194; refine Calls.mono (ch_all _ _ _ _ HFN.out H.out) ?_; rintro e w' ⟨v9, rfl, h'⟩; replace H := Lib.hid h'; obtain ⟨A9, c9, hv9, hA9⟩ := iT_form (iT_tab h'); subst hv9; clear h') | (at_builtin; refine wpList_appendAll (.tmp 38) (.tmp 41) (.slice A6 l1.length c6) (.slice A9 (fo.2.ring fo.1).length c9) (iR l1) (iR (fo.2.ring fo.1)) (X.es vf (fo.2.tick (t + 1 + u0 + u1 + (fo.2.ring fo.1).length)) ++ [iT (.slice A9 (fo.2.ring fo.1).length c9) (fo.2.ring fo.1)]) C (by rfl) (by rfl) Tryz.underlying45 info_int_ (by rfl) (by decide) (by decide) hlen (iR_one _) (by rfl) (by rfl) (by simpa [iT] using H.out) (by simp [iT]) ?_; intro v' w' h'))
        go_meet
        case rel => exact ⟨(fo.2.ring fo.1).length, by rw [HL0.out]; simp, Lib.hid (by rw [HL0.out]; rw [iR_app, List.append_assoc] at h'; exact iT_drop h')⟩
    case rest =>
      clear H
      obtain ⟨u2, hu2, H⟩ := hcut
      have hfl : fr.length ≤ 1000000 := by rw [HFE.out]; split; omega; rw [List.length_append]; omega
      obtain ⟨A7, c7, hv7, _⟩ := iT_form (iT_tab H.out)
      subst hv7
      go_wp2_with (first | (go_at_call 155; refine Calls.mono (node_end _ _ _ _ HOK2.out H.out) ?_; rintro e w' ⟨vf1, rfl, h'⟩; replace H := Lib.hid h'; clear h') | (go_at_call 196; refine Calls.mono (fb_unlike _ _ _ fr _ K HRB2.out hK hfl H.out) ?_; rintro e w' ⟨u3, hu3, rfl, h'⟩; replace H := Lib.hid h'; clear h'))
      obtain ⟨u9, hu9, h9⟩ := tick_up (t := t) (N := 12 + 2 * l1.length + 19 * fr.length) H.out (by omega) (by omega)
      exact hR.out _ _ ⟨_, u9, hu9, rfl, h9⟩
theorem fb_Pop (n : Int) (K : Int) (hrb : s.RB K) (hK : 0 ≤ K ∧ K ≤ 10000000) (hn : s.n ≤ 65536 ∧ 1 ≤ s.n) (hok : s.Ok) (hlv : s.has n = true) (h : Led B w0 w (X.es vf (s.tick t) ++ C)) :
    Calls Tryz.prog 106 #[.pointer (some ⟨X.p, 0, none⟩), .int .i64 n] w fun e w' => ∃ vf2 u, u ≤ 12 + 2 * (s.fkids n).length + 19 * (s.frest n).length ∧ e = .returned (.tuple #[.int .i64 (s.fpop n).2.1, .int .i64 (s.fpop n).2.2]) ∧ Led B w0 w' (X.es vf2 (((s.fpop n).1).tick (t + u)) ++ C) := by
  have HRB := Lib.hid hrb
  have HOK := Lib.hid hok
  clear hrb hok
  have H := Lib.hid h
  clear h
  refine callsR fun R hR => ?_
  go_enter Tryz.func106, Tryz.ntmps106
  go_wp2_with (first | (go_at_call 153; refine Calls.mono (t_live _ _ _ _ H.out) ?_; rintro e w' ⟨rfl, rfl⟩; (try rw [hlv])) | (go_at_call 158; refine Calls.mono (fb_pop _ _ _ _ K HRB.out hK hn HOK.out H.out) ?_; rintro e w' ⟨vf2, u, hu, rfl, h'⟩; replace H := Lib.hid h'; clear h'))
  exact hR.out _ _ ⟨_, u, hu, rfl, H.out⟩
end
end Go.Proofs.YtognmhgdegpdiaaGreat
end
