/- Texts of this proof, joined: U11, V11, L13H, Rs, G1, Y11, BInv, BRun, BOps1, BOps2, BOps3, BOps4, BOps5, BOps6, BOps7, BOps8, BFrz, BOpsM, BOps9. What each holds is said at its theorems. -/
import Derived.Test.YtnacpkmpdlodoaaRepairsHitQ1
import Derived.Sort.LotA
import Derived.Laws.CopyRow
import Derived.Laws.OwnMore
import Derived.Laws.StructEq
import Derived.Laws.Tables
import Derived.Great.BuildSlice
import Derived.MapKept
set_option linter.unusedSimpArgs false
set_option linter.unusedVariables false
namespace Go.Proofs.Ytnacpkmpdlodoaa
/-- ascending, below a bound -/
structure AscTo (l : List Int) (k : Nat) : Prop where
  asc : l.Pairwise (· < ·)
  bnd : ∀ y ∈ l, 0 ≤ y ∧ y < ((k : Nat) : Int)
theorem AscTo.nil (k : Nat) : AscTo [] k := ⟨List.Pairwise.nil, by simp⟩
theorem AscTo.skip {l : List Int} {k : Nat} (h : AscTo l k) : AscTo l (k + 1) := ⟨h.asc, fun y my => by have := h.bnd y my; omega⟩
theorem AscTo.mono {l : List Int} {k n : Nat} (h : AscTo l k) (hk : k ≤ n) : AscTo l n := ⟨h.asc, fun y my => by have := h.bnd y my; omega⟩
theorem AscTo.put {l : List Int} {k : Nat} (h : AscTo l k) : AscTo (l ++ [((k : Nat) : Int)]) (k + 1) := by
  refine ⟨List.pairwise_append.2 ⟨h.asc, List.pairwise_singleton _ _, fun a ma b mb => ?_⟩, fun y my => ?_⟩
  · rw [List.mem_singleton.1 mb]; exact (h.bnd a ma).2
  · rcases List.mem_append.1 my with m | m
    · have := h.bnd y m; omega
    · rw [List.mem_singleton.1 m]; omega
theorem AscTo.len {l : List Int} {k : Nat} (h : AscTo l k) : l.length ≤ k := asc_small h.asc fun x mx => by have := h.bnd x mx; omega
theorem AscTo.b {l : List Int} {k : Nat} (h : AscTo l k) : ascB l ((k : Nat) : Int) = true := asc_to h.bnd h.asc
theorem l11Nodes_ok {c : l1CurD} (h : CurOk c) {n : Nat} (hn : n ≤ 1000) (m : Int) : ∃ l c', s_l11Nodes c ((n : Nat) : Int) m = some (l, c') ∧ AscTo l n ∧ CurOk c' := by
  unfold s_l11Nodes
  have key : ∀ (d i : Nat) (cc : l1CurD) (row : List Int), i + d = n → CurOk cc → AscTo row i → ∃ l c', iter (σ := (List Int) × Int × Int × (List Int) × Int)
    (fun s =>
      match s with
      | (f_2, f_3, f_4, row_5, i_6) =>
      if (decide (i_6 < ((n : Nat) : Int))) = true then
        if (decide (((row_5.length : Nat) : Int) < m)) = true then
          (s_l1Once ({ b := f_2, i := f_3, h := f_4 } : l1CurD) 3).bind fun v7 =>
          if v7.1 = true then
            chk (row_5.length + 1 ≤ 1073741824) <|
            some (.inl (v7.2.b, v7.2.i, v7.2.h, (row_5 ++ [i_6]), (IntKind.i64.wrap (i_6 + 1))))
          else
            some (.inl (v7.2.b, v7.2.i, v7.2.h, row_5, (IntKind.i64.wrap (i_6 + 1))))
        else
          some (.inr (row_5, ({ b := f_2, i := f_3, h := f_4 } : l1CurD)))
      else
        some (.inr (row_5, ({ b := f_2, i := f_3, h := f_4 } : l1CurD))))
    (cc.b, cc.i, cc.h, row, ((i : Nat) : Int)) = some (l, c') ∧ AscTo l n ∧ CurOk c' := by
    intro d
    induction d with
    | zero =>
      intro i cc row hi hc hr
      have : i = n := by omega
      subst this
      refine ⟨row, cc, ?_, hr, hc⟩
      rw [iter_eq]
      simp only [Int.lt_irrefl, decide_false, Bool.false_eq_true, if_false]
    | succ d ih =>
      intro i cc row hi hc hr
      rw [iter_eq]
      have hpos : decide (((i : Nat) : Int) < ((n : Nat) : Int)) = true := decide_eq_true (by omega)
      simp only [hpos, if_true]
      by_cases hm : ((row.length : Nat) : Int) < m
      · obtain ⟨b, c2, e2, hc2⟩ := l1Once_ok hc (n := 3) (by omega) (by omega)
        simp only [decide_eq_true hm, if_true]
        rw [show ({ b := cc.b, i := cc.i, h := cc.h } : l1CurD) = cc from rfl, e2]
        simp only [Option.bind_some]
        have := hr.len
        cases b with
        | true =>
          simp only [if_true]
          rw [chk_pos _ (by omega), i64_succ (by omega)]
          exact ih (i + 1) c2 _ (by omega) hc2 hr.put
        | false =>
          simp only [Bool.false_eq_true, if_false]
          rw [i64_succ (by omega)]
          exact ih (i + 1) c2 _ (by omega) hc2 hr.skip
      · simp only [decide_eq_false hm, Bool.false_eq_true, if_false]
        exact ⟨row, cc, rfl, hr.mono (by omega), hc⟩
  exact key n 0 c [] (by omega) h (AscTo.nil 0)
structure GoodR (n : Nat) (r : ReasonD) : Prop where
  f0 : 0 ≤ r.for_
  f1 : r.for_ < ((n : Nat) : Int)
  inn : AscTo r.inn n
  outs : r.outs = []
theorem GoodR.b {n : Nat} {r : ReasonD} (h : GoodR n r) : okRB ((n : Nat) : Int) r = true ∧ noOut r = true := by
  refine ⟨?_, by simp [noOut, h.outs]⟩
  simp only [okRB, Bool.and_eq_true, decide_eq_true_eq]
  refine ⟨h.f0, h.f1, h.inn.b, ?_⟩
  rw [h.outs]; rfl
structure GoodB (n : Nat) (b : BeliefsD) : Prop where
  nodes : b.nodes = ((n : Nat) : Int)
  n1 : n ≤ 24
  n0 : 0 < n
  len : b.reasons.length ≤ 13
  R : ∀ r ∈ b.reasons, GoodR n r
theorem l11Draw_ok {c : l1CurD} (h : CurOk c) : ∃ n b c', s_l11Draw c 7 false = some (b, c') ∧ GoodB n b ∧ CurOk c' := by
  unfold s_l11Draw
  obtain ⟨x, c1, e1, x0, x1, h1⟩ := l1Below_ok h (n := 7) (by omega) (by omega)
  rw [e1]; simp only [Option.bind_some]
  rw [show IntKind.i64.wrap (2 * 7) = 14 by decide]
  obtain ⟨q, c2, e2, q0, q1, h2⟩ := l1Below_ok h1 (n := 14) (by omega) (by omega)
  rw [e2]; simp only [Option.bind_some]
  obtain ⟨k, rfl⟩ := Int.eq_ofNat_of_zero_le x0
  obtain ⟨d, rfl⟩ := Int.eq_ofNat_of_zero_le q0
  have hw : IntKind.i64.wrap (1 + ((k : Nat) : Int)) = ((k + 1 : Nat) : Int) := by rw [wrap_ok (by omega) (by omega)]; omega
  rw [hw]
  refine ⟨k + 1, ?_⟩
  have hd : d ≤ 13 := by omega
  have hst : ∃ (cc : l1CurD) (row : List ReasonD), (c2.b, c2.i, c2.h, ([] : List ReasonD), false, ((d : Nat) : Int)) = (cc.b, cc.i, cc.h, row, false, ((d : Nat) : Int)) ∧ CurOk cc ∧ (∀ r ∈ row, GoodR (k + 1) r) ∧ row.length + d ≤ 13 := ⟨c2, [], rfl, h2, by simp, by simpa using hd⟩
  clear e2 q0 q1 hd
  generalize (c2.b, c2.i, c2.h, ([] : List ReasonD), false, ((d : Nat) : Int)) = st at hst ⊢
  clear h2 c2
  induction d generalizing st with
  | zero =>
    obtain ⟨c2, row, rfl, h2, hr, hl⟩ := hst
    refine ⟨{ nodes := ((k + 1 : Nat) : Int), reasons := row }, c2, ?_, ⟨rfl, by omega, by omega, by show row.length ≤ 13; omega, hr⟩, h2⟩
    rw [iter_eq]
    simp only [Int.natCast_zero, Int.lt_irrefl, decide_false, Bool.false_eq_true, if_false]
  | succ d ih =>
    obtain ⟨c2, row, rfl, h2, hr, hl⟩ := hst
    rw [iter_eq]
    have hpos : decide (0 < (((d + 1 : Nat)) : Int)) = true := decide_eq_true (by omega)
    simp only [hpos, if_true]
    rw [show ({ b := c2.b, i := c2.i, h := c2.h } : l1CurD) = c2 from rfl]
    obtain ⟨y, c3, e3, y0, y1, h3⟩ := l1Below_ok h2 (n := ((k + 1 : Nat) : Int)) (by omega) (by omega)
    obtain ⟨b4, c4, e4, h4⟩ := l1Once_ok h3 (n := 3) (by omega) (by omega)
    rw [e3]; simp only [Option.bind_some]
    rw [e4]; simp only [Option.bind_some]
    have hw' : IntKind.i64.wrap ((((d + 1 : Nat)) : Int) - 1) = ((d : Nat) : Int) := by rw [wrap_ok (by omega) (by omega)]; omega
    have hgo : ∀ (inn : List Int), AscTo inn (k + 1) → ∀ r ∈ row ++ [({ for_ := y, inn := inn, outs := [] } : ReasonD)], GoodR (k + 1) r := fun inn hi r mr => by
      rcases List.mem_append.1 mr with m | m
      · exact hr r m
      · rw [List.mem_singleton.1 m]; exact ⟨y0, y1, hi, rfl⟩
    cases b4 with
    | true =>
      simp only [if_true, Bool.false_eq_true, if_false]
      have hlt : row.length + 1 ≤ 1073741824 := by omega
      rw [chk_pos _ hlt, hw']
      exact ih _ ⟨c4, _, rfl, h4, hgo [] (AscTo.nil _), by simp; omega⟩
    | false =>
      simp only [Bool.false_eq_true, if_false]
      obtain ⟨l, c5, e5, a5, h5⟩ := l11Nodes_ok h4 (n := k + 1) (by omega) 2
      rw [e5]; simp only [Option.bind_some]
      have hlt : row.length + 1 ≤ 1073741824 := by omega
      rw [chk_pos _ hlt, hw']
      exact ih _ ⟨c5, _, rfl, h5, hgo l a5, by simp; omega⟩
theorem GoodB.f {n : Nat} {b : BeliefsD} (h : GoodB n b) {a q : List Int} (ha : AscTo a n) (h5 : a.length ≤ 5) (hq : AscTo q n) : isFrameB { beliefs := b, assumed := a, bad := q } = true ∧ SmallF { beliefs := b, assumed := a, bad := q } := by
  have hn := h.n1
  constructor
  · simp only [isFrameB, isBeliefsB, Bool.and_eq_true, decide_eq_true_eq, h.nodes]
    exact ⟨⟨by omega, by omega, Nat.le_trans h.len (by omega), List.all_eq_true.2 fun r mr => (h.R r mr).b.1⟩, by omega, ha.b, hq.b, List.all_eq_true.2 fun r mr => (h.R r mr).b.2⟩
  · refine ⟨fun r mr => ⟨?_, ?_⟩, ?_, ?_, ?_⟩
    · have := (h.R r mr).inn.len; omega
    · rw [(h.R r mr).outs]; simp
    · have := h.len; show b.reasons.length ≤ _; omega
    · show a.length ≤ _; omega
    · have := hq.len; show q.length ≤ _; omega
theorem l13Draw_few {c : l1CurD} (h : CurOk c) : ∃ f c', s_l13Draw c = some (f, c') ∧ isFrameB f = true ∧ SmallF f ∧ (0 < f.beliefs.nodes ∧ f.beliefs.reasons.length ≤ 13) ∧ CurOk c' := by
  unfold s_l13Draw
  obtain ⟨n, b, c1, e1, hb, h1⟩ := l11Draw_ok h
  rw [e1]; simp only [Option.bind_some]
  have hn := hb.n1
  rw [hb.nodes]
  have key : ∀ (d i : Nat) (cc : l1CurD) (row : List Int), i + d = n → CurOk cc → AscTo row i → row.length ≤ 5 → ∃ f c', iter (σ := (List Int) × Int × Int × (List Int) × Int)
    (fun s =>
      match s with
      | (f_3, f_4, f_5, row_9, i_6) =>
      if (decide (i_6 < ((n : Nat) : Int))) = true then
        if (decide (((row_9.length : Nat) : Int) < 5)) = true then
          (s_l1Once ({ b := f_3, i := f_4, h := f_5 } : l1CurD) 3).bind fun v10 =>
          if v10.1 = true then
            some (.inl (v10.2.b, v10.2.i, v10.2.h, row_9, (IntKind.i64.wrap (i_6 + 1))))
          else
            chk (row_9.length + 1 ≤ 1073741824) <|
            some (.inl (v10.2.b, v10.2.i, v10.2.h, (row_9 ++ [i_6]), (IntKind.i64.wrap (i_6 + 1))))
        else
          (s_l11Nodes ({ b := f_3, i := f_4, h := f_5 } : l1CurD) ((n : Nat) : Int) 2).bind fun v11 =>
          some (.inr (({ beliefs := b, assumed := row_9, bad := v11.1 } : FrameD), v11.2))
      else
        (s_l11Nodes ({ b := f_3, i := f_4, h := f_5 } : l1CurD) ((n : Nat) : Int) 2).bind fun v12 =>
        some (.inr (({ beliefs := b, assumed := row_9, bad := v12.1 } : FrameD), v12.2))) (cc.b, cc.i, cc.h, row, ((i : Nat) : Int)) = some (f, c') ∧ isFrameB f = true ∧ SmallF f ∧ (0 < f.beliefs.nodes ∧ f.beliefs.reasons.length ≤ 13) ∧ CurOk c' := by
    intro d
    have fin : ∀ (cc : l1CurD) (row : List Int), CurOk cc → AscTo row n → row.length ≤ 5 → ∃ f c', ((s_l11Nodes cc ((n : Nat) : Int) 2).bind fun v12 => some (({ beliefs := b, assumed := row, bad := v12.1 } : FrameD), v12.2)) = some (f, c') ∧ isFrameB f = true ∧ SmallF f ∧ (0 < f.beliefs.nodes ∧ f.beliefs.reasons.length ≤ 13) ∧ CurOk c' := fun cc row hc hr h5 => by
      obtain ⟨l, c2, e2, a2, h2⟩ := l11Nodes_ok hc (n := n) (by omega) 2
      rw [e2]
      have := hb.f hr h5 a2
      exact ⟨_, _, rfl, this.1, this.2, ⟨by show 0 < b.nodes; rw [hb.nodes]; have := hb.n0; omega, hb.len⟩, h2⟩
    induction d with
    | zero =>
      intro i cc row hi hc hr h5
      have : i = n := by omega
      subst this
      obtain ⟨f, c', e, hf⟩ := fin cc row hc hr h5
      refine ⟨f, c', ?_, hf⟩
      rw [iter_eq]
      simp only [Int.lt_irrefl, decide_false, Bool.false_eq_true, if_false]
      rw [show ({ b := cc.b, i := cc.i, h := cc.h } : l1CurD) = cc from rfl]
      obtain ⟨l, c2, e2, a2, h2⟩ := l11Nodes_ok hc (n := i) (by omega) 2
      rw [e2] at e ⊢
      exact e
    | succ d ih =>
      intro i cc row hi hc hr h5
      have hpos : decide (((i : Nat) : Int) < ((n : Nat) : Int)) = true := decide_eq_true (by omega)
      by_cases hm : ((row.length : Nat) : Int) < 5
      · rw [iter_eq]
        simp only [hpos, decide_eq_true hm, if_true]
        rw [show ({ b := cc.b, i := cc.i, h := cc.h } : l1CurD) = cc from rfl]
        obtain ⟨b2, c2, e2, h2⟩ := l1Once_ok hc (n := 3) (by omega) (by omega)
        rw [e2]; simp only [Option.bind_some]
        cases b2 with
        | true =>
          simp only [if_true]
          rw [i64_succ (by omega)]
          exact ih (i + 1) c2 _ (by omega) h2 hr.skip h5
        | false =>
          simp only [Bool.false_eq_true, if_false]
          rw [chk_pos _ (by omega), i64_succ (by omega)]
          exact ih (i + 1) c2 _ (by omega) h2 hr.put (by simp; omega)
      · obtain ⟨f, c', e, hf⟩ := fin cc row hc (hr.mono (by omega)) h5
        refine ⟨f, c', ?_, hf⟩
        rw [iter_eq]
        simp only [hpos, decide_eq_false hm, if_true, Bool.false_eq_true, if_false]
        rw [show ({ b := cc.b, i := cc.i, h := cc.h } : l1CurD) = cc from rfl]
        obtain ⟨l, c2, e2, a2, h2⟩ := l11Nodes_ok hc (n := n) (by omega) 2
        rw [e2] at e ⊢
        exact e
  exact key n 0 c1 [] (by omega) h1 (AscTo.nil 0) (by simp)
theorem DrawGoodFrame_few (code : List Int) (h : code.length ≤ 4096) : ∃ f, s_DrawGoodFrame code = some f ∧ isFrameB f = true ∧ SmallF f ∧ f.beliefs.reasons.length ≤ 13 := by
  obtain ⟨c, e1, h1⟩ := l1New_ok code h
  obtain ⟨f, c', e2, a, b, d, _⟩ := l13Draw_few h1
  unfold s_DrawGoodFrame
  rw [e1]; simp only [Option.bind_some]; rw [e2]
  exact ⟨f, rfl, a, b, d.2⟩
section
open Classical
theorem HoldP.mono {f : FrameD} {x : Int} {s t : Nat} (h : partN s t) (hs : HoldP f x s) (hc : Cons f t) : HoldP f x t := ⟨hc, hs.2.mono h⟩
end
def hitB (l : List Int) (u : Int) : Bool := l.all fun x => andI .i64 u x != 0
def hitF (l : List Int) (row : List Int) (k : Nat) : List Int := if hitB l ((k : Nat) : Int) then row ++ [((k : Nat) : Int)] else row
theorem hitF_len (l row : List Int) (k : Nat) : (hitF l row k).length ≤ row.length + 1 := by
  unfold hitF; split <;> simp
def hitL (l : List Int) (m : Nat) : List Int := (List.range' 0 m).foldl (hitF l) []
theorem hitL_fold (l : List Int) : ∀ (q : List Nat) (row : List Int), (q.foldl (hitF l) row).length ≤ row.length + q.length ∧ ∀ y, y ∈ q.foldl (hitF l) row ↔ y ∈ row ∨ ∃ k ∈ q, y = ((k : Nat) : Int) ∧ hitB l ((k : Nat) : Int) = true
  | [], row => ⟨by simp, fun y => by simp⟩
  | k :: q, row => by
    obtain ⟨h1, h2⟩ := hitL_fold l q (hitF l row k)
    refine ⟨by have := hitF_len l row k; simp at h1 ⊢; omega, fun y => ?_⟩
    rw [List.foldl_cons, h2]
    have h3 : y ∈ hitF l row k ↔ y ∈ row ∨ (y = ((k : Nat) : Int) ∧ hitB l ((k : Nat) : Int) = true) := by
      unfold hitF
      split
      · rename_i hc; simp [hc]
      · rename_i hc; simp [hc]
    rw [h3]
    constructor
    · rintro ((h | ⟨h, h'⟩) | ⟨j, hj, h⟩)
      · exact .inl h
      · exact .inr ⟨k, by simp, h, h'⟩
      · exact .inr ⟨j, by simp [hj], h⟩
    · rintro (h | ⟨j, hj, h⟩)
      · exact .inl (.inl h)
      · rcases List.mem_cons.1 hj with rfl | hj
        · exact .inl (.inr h)
        · exact .inr ⟨j, hj, h⟩
theorem hitL_spec (l : List Int) (m : Nat) : (hitL l m).length ≤ m ∧ ∀ y, y ∈ hitL l m ↔ ∃ k, k < m ∧ y = ((k : Nat) : Int) ∧ hitB l ((k : Nat) : Int) = true := by
  obtain ⟨h1, h2⟩ := hitL_fold l (List.range' 0 m) []
  refine ⟨by simpa [hitL] using h1, fun y => ?_⟩
  show y ∈ (List.range' 0 m).foldl (hitF l) [] ↔ _
  rw [h2]
  simp
/-- the sets of a list fit below a bound -/
def inB (m : Nat) (l : List Int) : Bool := l.all fun x => decide (0 ≤ x) && decide (x < ((m : Nat) : Int))
theorem inB_iff {m : Nat} {l : List Int} : inB m l = true ↔ ∀ x ∈ l, 0 ≤ x ∧ x < ((m : Nat) : Int) := by
  simp [inB, List.all_eq_true]
theorem i_Hit_run (l : List Int) (n : Int) : i_HittingSets l n = if 0 ≤ n ∧ n ≤ 6 ∧ inB (2 ^ n.toNat) l = true then i_LeastSets (hitL l (2 ^ n.toNat)) else some [] := by
  unfold i_HittingSets
  by_cases h0 : n < 0
  · rw [if_pos (by simpa using h0), if_neg (by omega)]
  rw [if_neg (by simpa using h0)]
  by_cases h1 : 6 < n
  · rw [if_pos (by simpa using h1), if_neg (by omega)]
  rw [if_neg (by simpa using h1)]
  obtain ⟨e, e64⟩ := shl_pow (n := n) (by omega) (by omega)
  rw [forL_all (p := fun x => decide (0 ≤ x) && decide (x < ((2 ^ n.toNat : Nat) : Int))) (r := [])]
  · rw [show (l.all fun x => decide (0 ≤ x) && decide (x < ((2 ^ n.toNat : Nat) : Int))) = inB (2 ^ n.toNat) l from rfl]
    cases hB : inB (2 ^ n.toNat) l with
    | false => simp
    | true =>
      rw [if_pos rfl, if_pos ⟨by omega, by omega, rfl⟩, chk_pos _ h0]
      refine (iter_range (f := hitF l) (fin := fun row => i_LeastSets row) (fun k row => row.length ≤ k) (2 ^ n.toNat) ?_ ?_ (2 ^ n.toNat) 0 [] (by omega) (by simp))
      · intro k row hk hI
        refine ⟨?_, by have := hitF_len l row k; omega⟩
        rw [e]
        show (if decide (((k : Nat) : Int) < ((2 ^ n.toNat : Nat) : Int)) = true then _ else _) = _
        rw [if_pos (by simp only [decide_eq_true_eq]; omega)]
        rw [forL_fold' (f := fun s x => s && (andI .i64 ((k : Nat) : Int) x != 0)), fold1]
        · have hw : IntKind.i64.wrap (((k : Nat) : Int) + 1) = ((k + 1 : Nat) : Int) := by rw [wrap_ok (by omega) (by omega)]; omega
          rw [hw]
          rw [show (true && l.all fun x => andI .i64 ((k : Nat) : Int) x != 0) = hitB l ((k : Nat) : Int) by simp [hitB]]
          unfold hitF
          cases hitB l ((k : Nat) : Int) with
          | false => simp
          | true => simp only [if_true]; rw [chk_pos _ (by omega)]
        · intro i x s _
          cases s <;> simp
      · intro row _
        rw [e]
        show (if decide (((2 ^ n.toNat : Nat) : Int) < ((2 ^ n.toNat : Nat) : Int)) = true then _ else _) = _
        rw [if_neg (by simp)]
  · intro i x _
    rw [e]
    by_cases hx : x < 0
    · rw [if_pos (by simpa using hx), show (decide (0 ≤ x)) = false by simp; omega]; rfl
    · rw [if_neg (by simpa using hx), chk_pos _ h0, show (decide (0 ≤ x)) = true by simp; omega]
      by_cases hy : ((2 ^ n.toNat : Nat) : Int) ≤ x
      · rw [if_pos (by simpa using hy), show (decide (x < ((2 ^ n.toNat : Nat) : Int))) = false by simp only [decide_eq_false_iff_not]; omega]; rfl
      · rw [if_neg (by simpa using hy), show (decide (x < ((2 ^ n.toNat : Nat) : Int))) = true by simp only [decide_eq_true_eq]; omega]; rfl
theorem hitB_iff {l : List Int} {m k : Nat} (hm : m ≤ 64) (hl : ∀ x ∈ l, 0 ≤ x ∧ x < ((m : Nat) : Int)) (hk : k < m) : hitB l ((k : Nat) : Int) = true ↔ ∀ x, memP l x → meets k x := by
  simp only [hitB, List.all_eq_true, bne_iff_ne, ne_eq]
  constructor
  · intro h x hx
    have h1 := h _ hx
    have h2 := hl _ hx
    rw [andI_nat (by omega) (by omega)] at h1
    show k &&& x ≠ 0
    omega
  · intro h x hx
    obtain ⟨h1, h2⟩ := hl x hx
    obtain ⟨y, rfl⟩ := Int.eq_ofNat_of_zero_le h1
    have h3 : k &&& y ≠ 0 := h y hx
    rw [andI_nat (by omega) (by omega)]
    omega
/-- the program's sets that hit -/
theorem i_Hit_can {l : List Int} {n : Int} (h0 : 0 ≤ n) (h1 : n ≤ 6) (hl : ∀ x ∈ l, 0 ≤ x ∧ x < ((2 ^ n.toNat : Nat) : Int)) : ∃ r, i_HittingSets l n = some r ∧ Canon r (Hit n.toNat (memP l)) ∧ (∀ y ∈ r, 0 ≤ y ∧ y < ((2 ^ n.toNat : Nat) : Int)) ∧ r.length ≤ 64 := by
  obtain ⟨e, e64⟩ := shl_pow (n := n) h0 h1
  obtain ⟨a1, a2⟩ := hitL_spec l (2 ^ n.toNat)
  have hF : Fit (hitL l (2 ^ n.toNat)) := fun y hy => by
    obtain ⟨k, hk, rfl, _⟩ := (a2 y).1 hy
    omega
  obtain ⟨r, r1, r2, r3, r4⟩ := i_LeastSets_can (hitL l (2 ^ n.toNat)) (by omega) hF
  refine ⟨r, by rw [i_Hit_run, if_pos ⟨h0, h1, inB_iff.2 hl⟩]; exact r1, ⟨r2.1, fun y => ?_⟩, fun y hy => ?_, by omega⟩
  · rw [r2.2]
    have key : ∀ s, memP (hitL l (2 ^ n.toNat)) s ↔ Hit n.toNat (memP l) s := fun s => by
      show ((s : Nat) : Int) ∈ _ ↔ _
      rw [a2]
      constructor
      · rintro ⟨k, hk, ek, hb⟩
        have : s = k := by omega
        subst this
        exact ⟨hk, (hitB_iff e64 hl hk).1 hb⟩
      · rintro ⟨hs, hb⟩
        exact ⟨s, hs, rfl, (hitB_iff e64 hl hs).2 hb⟩
    rw [min_ext (Cof.of fun n hn => (key n).1 hn) (Cof.of fun n hn => (key n).2 hn)]
  · obtain ⟨k, hk, rfl, _⟩ := (a2 y).1 (r3 y hy)
    omega
section
section
open Go.Sort
variable {α : Type} [Inhabited α]
theorem insInner_perm (lt : α → α → Bool) (a b i : Nat) (hib : i < b) : ∀ (j : Nat) (d : Array α), a ≤ j → j ≤ i → b ≤ d.size → PermIn a b d (insInner lt a j d)
  | 0, d, _, _, _ => by
    unfold insInner
    exact permIn_refl d a b
  | j + 1, d, haj, hji, hb => by
    unfold insInner
    split
    · rename_i hc
      simp only [Bool.and_eq_true, decide_eq_true_eq] at hc
      exact permIn_trans _ _ _ a b (swp_permIn d a b (j + 1) j haj (by omega) (by omega) (by omega) hb) (insInner_perm lt a b i hib j (Go.Sort.swp d (j + 1) j) (by omega) (by omega) (by rw [swp_size]; exact hb))
    · exact permIn_refl d a b
theorem insOuter_perm (lt : α → α → Bool) (a b : Nat) : ∀ (n i : Nat) (d : Array α), b - i = n → a < i → i ≤ b → b ≤ d.size → PermIn a b d (insOuter lt a b i d)
  | 0, i, d, hn, _, hib, _ => by
    obtain rfl : i = b := by omega
    rw [insOuter, if_neg (by omega)]
    exact permIn_refl d a i
  | n + 1, i, d, hn, hai, hib, hb => by
    have hlt : i < b := by omega
    rw [insOuter, if_pos hlt]
    have h1 := insInner_perm lt a b i hlt i d (by omega) (Nat.le_refl _) hb
    exact permIn_trans _ _ _ a b h1 (insOuter_perm lt a b n (i + 1) (insInner lt a i d) (by omega) (by omega) (by omega) (by rw [h1.1]; exact hb))
theorem ins_perm (lt : α → α → Bool) (d : Array α) (a b : Nat) (hab : a ≤ b) (hb : b ≤ d.size) : PermIn a b d (insertionSort lt d a b) := by
  unfold insertionSort
  by_cases h : a = b
  · subst h
    rw [insOuter, if_neg (by omega)]
    exact permIn_refl d a a
  · exact insOuter_perm lt a b (b - (a + 1)) (a + 1) d rfl (by omega) (by omega) hb
end
/-- the sorted places -/
def sortI (l : List (List Int)) : Array Nat := Go.Sort.insertionSort (ltI l) (Array.range l.length) 0 l.length
theorem sortI_perm (l : List (List Int)) : (sortI l).size = l.length ∧ (sortI l).toList.Perm (List.range l.length) := by
  have hs : (Array.range l.length).size = l.length := by simp
  have h := ins_perm (ltI l) (Array.range l.length) 0 l.length (Nat.zero_le _) (by rw [hs]; exact Nat.le_refl _)
  have h1 : (sortI l).size = l.length := h.1.trans hs
  refine ⟨h1, ?_⟩
  have h2 := h.2.2
  have e1 : ((Array.range l.length).extract 0 l.length) = Array.range l.length := by
    have := Array.extract_size (xs := Array.range l.length)
    rwa [hs] at this
  have e2 : (Go.Sort.insertionSort (ltI l) (Array.range l.length) 0 l.length).extract 0 l.length = Go.Sort.insertionSort (ltI l) (Array.range l.length) 0 l.length := by
    have := Array.extract_size (xs := Go.Sort.insertionSort (ltI l) (Array.range l.length) 0 l.length)
    rwa [show (Go.Sort.insertionSort (ltI l) (Array.range l.length) 0 l.length).size = l.length from h1] at this
  rw [e1, e2] at h2
  have h3 : (sortI l).toList.Perm (Array.range l.length).toList := h2
  rwa [Array.toList_range] at h3
theorem sortR_eq (l : List (List Int)) : sortR l = (sortI l).toList.map (rowI l) := rfl
theorem rowI_map (l : List (List Int)) : (List.range l.length).map (rowI l) = l := by
  apply List.ext_getElem
  · simp
  · intro i h1 h2
    simp [rowI, h2]
theorem sortR_perm (l : List (List Int)) : (sortR l).Perm l := by
  rw [sortR_eq]
  have := (sortI_perm l).2.map (rowI l)
  rwa [rowI_map] at this
theorem sortR_len (l : List (List Int)) : (sortR l).length = l.length := (sortR_perm l).length_eq
theorem sortR_few {l : List (List Int)} (h : l.length ≤ 1) : sortR l = l := by
  cases l with
  | nil => exact (sortR_perm []).eq_nil
  | cons x r =>
    cases r with
    | nil => exact List.perm_singleton.1 (sortR_perm [x])
    | cons y r => simp at h
end
section
open Go.RowKit
structure SqM (n : Nat) (d : List (List Bool)) : Prop where
  len : d.length = n
  row : ∀ r ∈ d, r.length = n
theorem SqM.new (n : Nat) : SqM n (List.replicate n (List.replicate n false)) := ⟨by simp, fun r mr => by rw [(List.mem_replicate.1 mr).2]; simp⟩
theorem SqM.get {n : Nat} {d : List (List Bool)} (h : SqM n d) {i j : Nat} (hi : i < n) (hj : j < n) : ∃ (h1 : i < d.length) (h2 : j < d[i].length), getM d i j = d[i][j] ∧ ∀ v, setM d i j v = d.set i (d[i].set j v) := by
  have h1 : i < d.length := by rw [h.len]; exact hi
  have h2 : j < d[i].length := by rw [h.row _ (List.getElem_mem h1)]; exact hj
  refine ⟨h1, h2, ?_, fun v => ?_⟩
  · unfold getM; rw [List.getElem?_eq_getElem h1]; simp only; rw [List.getElem?_eq_getElem h2]
  · unfold setM; rw [List.getElem?_eq_getElem h1]
theorem SqM.set {n : Nat} {d : List (List Bool)} (h : SqM n d) (i j : Nat) (v : Bool) : SqM n (setM d i j v) := by
  unfold setM
  cases hd : d[i]? with
  | none => exact h
  | some r =>
    refine ⟨by simp [h.len], fun q mq => ?_⟩
    rcases List.mem_or_eq_of_mem_set mq with mq | rfl
    · exact h.row q mq
    · rw [List.length_set]; exact h.row r (List.mem_of_getElem? hd)
theorem get_set {n : Nat} {d : List (List Bool)} (h : SqM n d) {i j : Nat} {v : Bool} (hi : i < n) (hj : j < n) (a b : Nat) : getM (setM d i j v) a b = if a = i ∧ b = j then v else getM d a b := by
  obtain ⟨h1, h2, _, h4⟩ := h.get hi hj
  rw [h4]
  unfold getM
  rw [List.getElem?_set]
  by_cases e : i = a
  · subst e
    rw [if_pos rfl, if_pos h1]
    simp only
    rw [List.getElem?_set, List.getElem?_eq_getElem h1]
    by_cases e2 : j = b
    · subst e2; rw [if_pos rfl, if_pos h2]; simp
    · rw [if_neg e2, if_neg (fun hh => e2 hh.2.symm)]
  · rw [if_neg e, if_neg (fun hh => e hh.1.symm)]
end
section
open Classical
/-- the premises of a frame's assumptions, behind its reasons -/
def frL (m n : Nat) : List Int := (List.range n).map fun i => ((m + i : Nat) : Int)
def bP (f : FrameD) : BeliefsD := { nodes := f.beliefs.nodes, reasons := f.beliefs.reasons ++ f.assumed.map premOf }
def fr (f : FrameD) : List Int := frL f.beliefs.reasons.length f.assumed.length
theorem frL_len (m n : Nat) : (frL m n).length = n := by simp [frL]
theorem frL_snoc (m n : Nat) : frL m (n + 1) = frL m n ++ [((m + n : Nat) : Int)] := by simp [frL, List.range_succ]
theorem frL_at {m n i : Nat} (h : i < n) : (frL m n)[i]? = some ((m + i : Nat) : Int) := by simp [frL, h]
theorem mem_frL {m n : Nat} {x : Int} : x ∈ frL m n ↔ ∃ i, i < n ∧ x = ((m + i : Nat) : Int) := by
  simp only [frL, List.mem_map, List.mem_range]
  exact ⟨fun ⟨i, h, e⟩ => ⟨i, h, e.symm⟩, fun ⟨i, h, e⟩ => ⟨i, h, e.symm⟩⟩
theorem frL_asc (m n : Nat) : (frL m n).Pairwise (· < ·) := by
  unfold frL
  rw [List.pairwise_map]
  exact List.Pairwise.imp (fun h => by omega) List.pairwise_lt_range
section
variable {f : FrameD}
theorem premises_eq (hv : isFrameB f = true) (hs : SmallF f) (h13 : f.beliefs.reasons.length ≤ 13) : i_PremisesFrom f = some (bP f, fr f, true) := by
  have h6 := FrOk.a6 hv
  have hok := FrOk.of hv
  unfold i_PremisesFrom
  rw [i_IsFrame_eq hs, hv, Option.bind_some, if_pos rfl, wrap_ok (by omega) (by omega), if_neg (by rw [decide_eq_true_iff]; omega), i_copyBeliefs_eq (by omega) hok.small, Option.bind_some]
  obtain ⟨s', e, hI⟩ := forL_pre (fun p (s : List ReasonD × List Int) => s = (f.beliefs.reasons ++ p.map premOf, frL f.beliefs.reasons.length p.length)) f.assumed [] (f.beliefs.reasons, []) (by simp [frL]) (body := (fun (i9 : Nat) (x10 : Int) s =>
          match s with
          | (row_5, row_6) =>
          chk (row_6.length + 1 ≤ 1073741824) <|
          chk (row_5.length + 1 ≤ 1073741824) <|
          some (.inl ((row_5 ++ [({ for_ := x10, inn := [], outs := [] } : ReasonD)]), (row_6 ++ [((row_5.length : Nat) : Int)]))))) (fin := (fun s =>
          match s with
          | (row_5, row_6) =>
          some (({ nodes := f.beliefs.nodes, reasons := row_5 } : BeliefsD), row_6, true))) fun p x s mx hp hI => by
    subst hI
    simp only [List.length_nil, Nat.zero_add] at hp
    refine ⟨_, ?_, rfl⟩
    dsimp only
    rw [chk_pos _ (by rw [frL_len]; omega), chk_pos _ (by simp; omega)]
    simp only [List.length_append, List.length_map, List.map_append, List.map_cons, List.map_nil, List.length_cons, List.length_nil, Nat.zero_add, frL_snoc, List.append_assoc]
    rfl
  refine e.trans ?_
  rw [List.nil_append] at hI
  subst hI
  rfl
theorem bP_small (hv : isFrameB f = true) (hs : SmallF f) : SmallB (bP f) := fun r mr => by
  rcases List.mem_append.1 mr with m | m
  · exact hs.b r m
  · obtain ⟨x, _, rfl⟩ := List.mem_map.1 m
    simp [premOf]
theorem bP_okR (hv : isFrameB f = true) : ∀ r ∈ (bP f).reasons, OkR (bP f).nodes.toNat r := fun r mr => by
  have hok := FrOk.of hv
  rcases List.mem_append.1 mr with m | m
  · exact hok.R r m
  · obtain ⟨x, mx, rfl⟩ := List.mem_map.1 m
    have := hok.a x mx
    exact ⟨this.1, this.2, by simp [premOf], rfl⟩
theorem bP_valid (hv : isFrameB f = true) (h13 : f.beliefs.reasons.length ≤ 13) : isBeliefsB (bP f) = true := by
  have h6 := FrOk.a6 hv
  have hok := FrOk.of hv
  have hv' := hv
  unfold isFrameB isBeliefsB at hv'
  simp only [Bool.and_eq_true, decide_eq_true_eq] at hv'
  obtain ⟨⟨v0, v1, v2, v3⟩, v4, v5, v6, v7⟩ := hv'
  unfold isBeliefsB
  simp only [Bool.and_eq_true, decide_eq_true_eq]
  refine ⟨v0, v1, by simp only [bP, List.length_append, List.length_map]; omega, List.all_eq_true.2 fun r mr => ?_⟩
  rcases List.mem_append.1 mr with m | m
  · exact List.all_eq_true.1 v3 r m
  · obtain ⟨x, mx, rfl⟩ := List.mem_map.1 m
    have := (asc_of v5).1 x mx
    simp only [okRB, premOf, Bool.and_eq_true, decide_eq_true_eq]
    exact ⟨decide_eq_true this.1, decide_eq_true this.2, rfl, rfl⟩
theorem bP_outs (hv : isFrameB f = true) : ∀ r ∈ (bP f).reasons, r.outs = [] := fun r mr => (bP_okR hv r mr).2.2.2
theorem strat_true (hv : isFrameB f = true) (hs : SmallF f) (h13 : f.beliefs.reasons.length ≤ 13) : i_IsStratified (bP f) = some true := by
  have hok := FrOk.of hv
  have h6 := FrOk.a6 hv
  unfold i_IsStratified
  have hl : (bP f).reasons.length ≤ 60 := by simp only [bP, List.length_append, List.length_map]; omega
  rw [i_IsBeliefs_eq (bP_small hv hs) (by omega), bP_valid hv h13, Option.bind_some, if_pos rfl]
  unfold i_dependencies
  rw [if_pos, Option.bind_some, forL_all (p := fun _ => true) (r := false)]
  · rw [if_pos (by simp)]
  · intro i r mr
    rw [bP_outs hv r mr]
    rfl
  · unfold okDep
    rw [Bool.and_eq_true, decide_eq_true_iff, List.all_eq_true]
    refine ⟨⟨hok.n0, hok.n1, hl⟩, fun r mr => ?_⟩
    obtain ⟨a, b, c, d⟩ := bP_okR hv r mr
    have hn := hok.n0
    simp only [Bool.and_eq_true, decide_eq_true_eq, List.all_eq_true]
    have e : (bP f).nodes = f.beliefs.nodes := rfl
    rw [e] at b c ⊢
    refine ⟨⟨⟨a, by omega⟩, fun y my => ?_⟩, by rw [d]; simp⟩
    have := c y my
    exact ⟨this.1, by omega⟩
theorem case_true (hv : isFrameB f = true) (hs : SmallF f) (h13 : f.beliefs.reasons.length ≤ 13) : i_IsCase (bP f) f.bad (fr f) = some true := by
  have h6 := FrOk.a6 hv
  have hv' := hv
  unfold isFrameB at hv'
  simp only [Bool.and_eq_true, decide_eq_true_eq] at hv'
  obtain ⟨_, _, _, v6, _⟩ := hv'
  unfold i_IsCase
  rw [strat_true hv hs h13, Option.bind_some, if_pos rfl, i_asc_eq _ _ hs.bad]
  have e : (bP f).nodes = f.beliefs.nodes := rfl
  have hl : (bP f).reasons.length = f.beliefs.reasons.length + f.assumed.length := by simp [bP]
  rw [e, v6, Option.bind_some, if_pos rfl, if_neg (by unfold fr; rw [frL_len, decide_eq_true_iff]; omega), i_asc_eq _ _ (by unfold fr; rw [frL_len]; omega), show ascB (fr f) ((bP f).reasons.length : Int) = true from asc_to (fun x mx => ?_) (frL_asc _ _), Option.bind_some, if_pos rfl, forL_all (p := fun _ => true) (r := false)]
  · rw [if_pos (by simp)]
  · intro i x mx
    obtain ⟨j, hj, rfl⟩ := mem_frL.1 mx
    have : atI (bP f).reasons ((f.beliefs.reasons.length + j : Nat) : Int) = some (premOf f.assumed[j]) := by
      unfold atI
      rw [if_pos (by omega), Int.toNat_natCast]
      simp [bP, hj]
    rw [this, Option.bind_some]
    rfl
  · obtain ⟨j, hj, rfl⟩ := mem_frL.1 mx
    rw [hl]
    omega
/-- the other assumptions -/
def comp (f : FrameD) (s : Nat) : Nat := (2 ^ f.assumed.length - 1) ^^^ s
theorem comp_bit {s i : Nat} (hi : i < f.assumed.length) : (comp f s).testBit i = !s.testBit i := by
  unfold comp
  rw [Nat.testBit_xor, Nat.testBit_two_pow_sub_one, decide_eq_true hi, Bool.true_xor]
theorem comp_lt {s : Nat} (hs : s < MF f) : comp f s < MF f := Nat.xor_lt_two_pow (by have := MF_pos f; unfold MF at this; omega) hs
theorem chosen_fr {s : Nat} {x : Int} (m : Nat) (n : Nat) : x ∈ chosenL (frL m n) s 0 ↔ ∃ i, i < n ∧ x = ((m + i : Nat) : Int) ∧ s.testBit i = true := by
  rw [mem_chosenL]
  constructor
  · rintro ⟨j, h1, h2⟩
    have hj : j < n := by have := (List.getElem?_eq_some_iff.1 h1).1; rwa [frL_len] at this
    rw [frL_at hj] at h1
    exact ⟨j, hj, (Option.some.inj h1).symm, by simpa using h2⟩
  · rintro ⟨i, hi, rfl, h⟩
    exact ⟨i, frL_at hi, by simpa using h⟩
theorem has_fr {s m n i : Nat} (hi : i < n) : hasB (chosenL (frL m n) s 0) ((m + i : Nat) : Int) = s.testBit i := by
  rw [Bool.eq_iff_iff, hasB_iff, chosen_fr]
  constructor
  · rintro ⟨j, _, e, h⟩
    have : j = i := by omega
    rwa [this] at h
  · exact fun h => ⟨i, hi, rfl, h⟩
/-- what is left of reasons -/
def dropL (c : List Int) : List ReasonD → Nat → List ReasonD
  | [], _ => []
  | r :: l, i => if hasB c ((i : Nat) : Int) = true then dropL c l (i + 1) else r :: dropL c l (i + 1)
theorem dropL_len (c : List Int) : ∀ (l : List ReasonD) (i : Nat), (dropL c l i).length ≤ l.length
  | [], _ => by simp [dropL]
  | r :: l, i => by
    have := dropL_len c l (i + 1)
    simp only [dropL]
    split <;> simp <;> omega
theorem mem_dropL {c : List Int} {r : ReasonD} : ∀ {l : List ReasonD} {i : Nat}, r ∈ dropL c l i ↔ ∃ j, l[j]? = some r ∧ ¬ hasB c ((i + j : Nat) : Int) = true
  | [], i => ⟨fun h => by simp [dropL] at h, fun ⟨j, h, _⟩ => by simp at h⟩
  | y :: l, i => by
    have ih := mem_dropL (c := c) (r := r) (l := l) (i := i + 1)
    simp only [dropL]
    constructor
    · intro h
      have key : r ∈ dropL c l (i + 1) → ∃ j, (y :: l)[j]? = some r ∧ ¬ hasB c ((i + j : Nat) : Int) = true := fun h => by
        obtain ⟨j, h1, h2⟩ := ih.1 h
        exact ⟨j + 1, by simpa using h1, by rw [show i + (j + 1) = i + 1 + j by omega]; exact h2⟩
      split at h
      · exact key h
      · rename_i hb
        rcases List.mem_cons.1 h with rfl | h
        · exact ⟨0, by simp, by simpa using hb⟩
        · exact key h
    · rintro ⟨j, h1, h2⟩
      cases j with
      | zero =>
        simp at h1; subst h1
        rw [if_neg (by simpa using h2)]; simp
      | succ j =>
        have := ih.2 ⟨j, by simpa using h1, by rw [show i + 1 + j = i + (j + 1) by omega]; exact h2⟩
        split
        · exact this
        · simp [this]
theorem i_Drop_eq {b : BeliefsD} {c : List Int} (hr : b.reasons.length ≤ 1000000) (h : ∀ r ∈ b.reasons, r.inn.length ≤ 1073741824 ∧ r.outs.length ≤ 1073741824) : i_DropReasons b c = some { nodes := b.nodes, reasons := dropL c b.reasons 0 } := by
  unfold i_DropReasons
  rw [forL_rec (fun l i acc => some { nodes := b.nodes, reasons := acc ++ dropL c l i }) (fun l i acc => acc.length + l.length ≤ 1000000 ∧ ∀ r ∈ l, r.inn.length ≤ 1073741824 ∧ r.outs.length ≤ 1073741824) (fun i acc _ => by simp [dropL]) (fun x l i acc hI => by
    left
    obtain ⟨h1, h2⟩ := hI
    simp only [List.length_cons] at h1
    have h3 := h2 x (by simp)
    have h4 : ∀ r ∈ l, r.inn.length ≤ 1073741824 ∧ r.outs.length ≤ 1073741824 := fun r m => h2 r (by simp [m])
    rw [i_hasInt_eq, Option.bind_some]
    by_cases hb : hasB c ((i : Nat) : Int) = true
    · rw [if_pos hb]
      exact ⟨_, rfl, ⟨by omega, h4⟩, by simp [dropL, hb]⟩
    · rw [if_neg hb]
      have e : i_copyReason x = some x := by
        unfold i_copyReason
        rw [copyInts_eq _ h3.1, Option.bind_some, copyInts_eq _ h3.2]; rfl
      rw [e, Option.bind_some, chk_pos _ (by omega)]
      exact ⟨_, rfl, ⟨by simp; omega, h4⟩, by simp [dropL, hb]⟩) b.reasons 0 [] ⟨by simpa using hr, h⟩]
  simp
/-- what follows without some premises follows from the other assumptions -/
theorem drop_der (hv : isFrameB f = true) {s : Nat} (x : Int) : Der (dropL (chosenL (fr f) s 0) (bP f).reasons 0) x ↔ UnF f (comp f s) x := by
  have key : ∀ r, r ∈ dropL (chosenL (fr f) s 0) (bP f).reasons 0 ↔ r ∈ RF f (comp f s) := fun r => by
    unfold RF
    rw [mem_dropL, List.mem_append, List.mem_map]
    constructor
    · rintro ⟨j, h1, h2⟩
      simp only [bP] at h1
      by_cases hj : j < f.beliefs.reasons.length
      · rw [List.getElem?_append_left hj] at h1
        exact .inl (List.mem_of_getElem? h1)
      · rw [List.getElem?_append_right (by omega), List.getElem?_map] at h1
        obtain ⟨a, ha, rfl⟩ := Option.map_eq_some_iff.1 h1
        have hi := (List.getElem?_eq_some_iff.1 ha).1
        refine .inr ⟨a, mem_chosenL.2 ⟨j - f.beliefs.reasons.length, ha, ?_⟩, rfl⟩
        rw [Nat.zero_add, comp_bit hi]
        rw [show 0 + j = f.beliefs.reasons.length + (j - f.beliefs.reasons.length) by omega, show chosenL (fr f) s 0 = chosenL (frL f.beliefs.reasons.length f.assumed.length) s 0 from rfl, has_fr hi] at h2
        simpa using h2
    · rintro (h | ⟨a, h, rfl⟩)
      · obtain ⟨j, hj⟩ := List.mem_iff_getElem?.1 h
        have hl := (List.getElem?_eq_some_iff.1 hj).1
        refine ⟨j, by simp only [bP]; rw [List.getElem?_append_left hl]; exact hj, fun hb => ?_⟩
        obtain ⟨i, _, e, _⟩ := (chosen_fr _ _).1 (hasB_iff.1 hb)
        omega
      · obtain ⟨j, h1, h2⟩ := mem_chosenL.1 h
        have hi := (List.getElem?_eq_some_iff.1 h1).1
        rw [Nat.zero_add, comp_bit hi] at h2
        refine ⟨f.beliefs.reasons.length + j, ?_, ?_⟩
        · simp only [bP]
          rw [List.getElem?_append_right (by omega), List.getElem?_map, Nat.add_sub_cancel_left, h1]; rfl
        · rw [show 0 + (f.beliefs.reasons.length + j) = f.beliefs.reasons.length + j by omega, show chosenL (fr f) s 0 = chosenL (frL f.beliefs.reasons.length f.assumed.length) s 0 from rfl, has_fr hi]
          simpa using h2
  exact ⟨fun h => h.mono fun r mr => (key r).1 mr, fun h => Der.mono (fun r mr => (key r).2 mr) h⟩
theorem badIn_eq {b : BeliefsD} {bad : List Int} {l : List Bool} {D : Int → Prop} (h1 : i_labels b = some l) (h2 : Lab l b.nodes.toNat D) (hb : ∀ x ∈ bad, 0 ≤ x ∧ x.toNat < b.nodes.toNat) (hl : bad.length ≤ 1000000) : i_badIn b bad = some (bad.filter fun x => decide (D x)) := by
  unfold i_badIn
  rw [h1, Option.bind_some, forL_rec (fun q i acc => some (acc ++ q.filter fun x => decide (D x))) (fun q i acc => acc.length + q.length ≤ 1000000 ∧ ∀ x ∈ q, 0 ≤ x ∧ x.toNat < b.nodes.toNat) (fun i acc _ => by simp) (fun x q i acc hI => by
    left
    obtain ⟨h3, h4⟩ := hI
    simp only [List.length_cons] at h3
    obtain ⟨x0, x1⟩ := h4 x (by simp)
    obtain ⟨v, e1, e2⟩ := h2.at x0 x1
    have hlen := h2.len
    rw [chk_pos _ ⟨x0, by omega⟩, e1, Option.bind_some]
    cases v with
    | true =>
      rw [if_pos rfl, chk_pos _ (by omega)]
      exact ⟨_, rfl, ⟨by simp; omega, fun y my => h4 y (by simp [my])⟩, by simp [e2.1 rfl]⟩
    | false =>
      have hn : ¬ D x := fun h => by simpa using e2.2 h
      rw [if_neg (by simp)]
      exact ⟨_, rfl, ⟨by omega, fun y my => h4 y (by simp [my])⟩, by simp [hn]⟩) bad 0 [] ⟨by simpa using hl, hb⟩]
  simp
noncomputable def repB (f : FrameD) (s : Nat) : Bool := decide (Cons f (comp f s))
theorem repair_step (hv : isFrameB f = true) (hs : SmallF f) (h13 : f.beliefs.reasons.length ≤ 13) {s : Nat} (h64 : s < 64) : ∃ c d q, i_chosen (fr f) ((s : Nat) : Int) = some c ∧ c = chosenL (fr f) s 0 ∧ i_DropReasons (bP f) c = some d ∧ i_badIn d f.bad = some q ∧ (((q.length : Nat) : Int) == 0) = repB f s := by
  have h6 := FrOk.a6 hv
  have hok := FrOk.of hv
  have hl : (bP f).reasons.length ≤ 60 := by simp only [bP, List.length_append, List.length_map]; omega
  have hsm : ∀ r ∈ (bP f).reasons, r.inn.length ≤ 1073741824 ∧ r.outs.length ≤ 1073741824 := fun r mr => by
    have := bP_small hv hs r mr
    omega
  have hdR : ∀ r ∈ dropL (chosenL (fr f) s 0) (bP f).reasons 0, OkR (bP f).nodes.toNat r := fun r mr => by
    obtain ⟨j, h1, _⟩ := mem_dropL.1 mr
    exact bP_okR hv r (List.mem_of_getElem? h1)
  obtain ⟨lb, e1, e2⟩ := i_labels_eq (b := { nodes := (bP f).nodes, reasons := dropL (chosenL (fr f) s 0) (bP f).reasons 0 }) hok.n0 (by have := hok.n1; show f.beliefs.nodes ≤ 1000; omega) (by have := dropL_len (chosenL (fr f) s 0) (bP f).reasons 0; show (dropL _ _ _).length ≤ _; omega) hdR
  have hv' := hv
  unfold isFrameB at hv'
  simp only [Bool.and_eq_true, decide_eq_true_eq] at hv'
  have hb24 : f.bad.length ≤ 24 := asc_small (asc_of hv'.2.2.2.1).2 fun x mx => by
    have := hok.b x mx
    have := hok.n1
    omega
  refine ⟨_, _, _, i_chosen_eq _ (by omega) (by unfold fr; rw [frL_len]; omega), rfl, i_Drop_eq (by omega) hsm, badIn_eq e1 e2 hok.b (by omega), ?_⟩
  · unfold repB Cons
    rw [Bool.eq_iff_iff]
    simp only [beq_iff_eq, decide_eq_true_eq, Int.natCast_eq_zero, List.length_eq_zero_iff, List.filter_eq_nil_iff, drop_der hv]
/-- twenty chains that hold all sets of six things -/
def chainN (s : Nat) : Nat := ([0, 0, 1, 0, 2, 2, 1, 0, 3, 3, 4, 3, 5, 2, 1, 0, 6, 6, 7, 6, 8, 8, 7, 6, 9, 9, 4, 3, 5, 2, 1, 0, 10, 10, 11, 10, 12, 12, 11, 10, 13, 13, 14, 13, 15, 12, 11, 10, 16, 16, 17, 16, 18, 8, 7, 6, 19, 9, 4, 3, 5, 2, 1, 0][s]?).getD 0
theorem chain_ok : ((List.range 64).all fun a => (List.range 64).all fun b => !(chainN a == chainN b) || ((a &&& b) == a || (b &&& a) == b)) = true := by kernel_rfl
theorem chain_lt : ((List.range 64).all fun a => decide (chainN a < 20)) = true := by kernel_rfl
theorem nodup_lenI : ∀ {l m : List Nat}, l.Nodup → (∀ x ∈ l, x ∈ m) → l.length ≤ m.length
  | [], _, _, _ => Nat.zero_le _
  | x :: l, m, h, hs => by
    rw [List.nodup_cons] at h
    have hx : x ∈ m := hs x (by simp)
    have h2 := nodup_lenI (m := m.erase x) h.2 (fun y my => (List.mem_erase_of_ne (fun e => h.1 (by rw [← e]; exact my))).2 (hs y (by simp [my])))
    rw [List.length_erase_of_mem hx] at h2
    have := List.length_pos_of_mem hx
    simp only [List.length_cons]
    omega
/-- of six things there are at most twenty sets of which none is a part of another one -/
theorem anti_few {A : Nat → Prop} {l : List Int} (ha : l.Pairwise (· < ·)) (hl : ∀ x ∈ l, 0 ≤ x ∧ x < 64 ∧ MinP A x.toNat) : l.length ≤ 20 := by
  have h1 : (l.map fun x => chainN x.toNat).Nodup := by
    rw [List.Nodup, List.pairwise_map]
    refine List.Pairwise.imp_of_mem (fun {a b} ma mb hab e => ?_) ha
    obtain ⟨a0, a1, a2⟩ := hl a ma
    obtain ⟨b0, b1, b2⟩ := hl b mb
    have h := chain_ok
    rw [List.all_eq_true] at h
    have h2 := h a.toNat (List.mem_range.2 (by omega))
    rw [List.all_eq_true] at h2
    have h3 := h2 b.toNat (List.mem_range.2 (by omega))
    simp only [e, beq_self_eq_true, Bool.not_true, Bool.false_or, Bool.or_eq_true, beq_iff_eq] at h3
    rcases h3 with h3 | h3
    · have := b2.2 _ a2.1 h3; omega
    · have := a2.2 _ b2.1 h3; omega
  have h2 := nodup_lenI h1 (m := List.range 20) fun y my => by
    obtain ⟨x, mx, rfl⟩ := List.mem_map.1 my
    obtain ⟨a0, a1, _⟩ := hl x mx
    have h := chain_lt
    rw [List.all_eq_true] at h
    exact List.mem_range.2 (of_decide_eq_true (h x.toNat (List.mem_range.2 (by omega))))
  simpa using h2
noncomputable def repL (f : FrameD) : List Int := setL (repB f) (MF f)
theorem repL_mem {y : Int} : y ∈ repL f ↔ ∃ k, k < MF f ∧ y = ((k : Nat) : Int) ∧ repB f k = true := (setL_spec (repB f) (MF f)).2.2 y
theorem repL_fit (hv : isFrameB f = true) : ∀ x ∈ repL f, 0 ≤ x ∧ x < 64 := fun x mx => by
  obtain ⟨k, hk, rfl, _⟩ := repL_mem.1 mx
  have := (shl_MF (FrOk.a6 hv)).2
  omega
def leastL (l : List Int) : List Int := l.filter (goodB l)
theorem least_loop {ρ : Type} {l : List Int} (hf : ∀ x ∈ l, 0 ≤ x ∧ x < 64) {s : Int} (ms : s ∈ l) {fin : Bool → Option ρ} : forL (σ := Bool) (fun (_ : Nat) (x52 : Int) u_48 =>
                  if u_48 = true then
                    if (x52 == s) = true then
                      some (.inl true)
                    else
                      some (.inl ((andI .i64 x52 s) != x52))
                  else
                    some (.inl false)) fin l 0 true = fin (goodB l s) := by
  have h0 := hf s ms
  rw [forL_rec (fun q i u => fin (u && q.all fun t => t == s || !partB t s)) (fun q i u => ∀ x ∈ q, 0 ≤ x ∧ x < 64) (fun i u _ => by simp) (fun x q i u hI => by
    left
    have hx := hI x (by simp)
    have hp : partB x s = (andI .i64 x s == x) := by
      unfold partB
      rw [decide_eq_true hx.1, decide_eq_true h0.1]; rfl
    refine ⟨u && (x == s || !partB x s), ?_, fun y my => hI y (by simp [my]), by rw [List.all_cons, Bool.and_assoc]⟩
    cases u with
    | false => rfl
    | true =>
      rw [if_pos rfl, Bool.true_and, hp]
      by_cases hxs : (x == s) = true
      · rw [if_pos hxs, hxs]; rfl
      · rw [if_neg hxs]
        simp only [Bool.not_eq_true] at hxs
        rw [hxs]; rfl) l 0 true hf]
  unfold goodB
  rw [decide_eq_true h0.1]
theorem filter_loop {ρ : Type} {m n : Nat} (hn : n ≤ 6) {l : List Int} (hll : l.length ≤ 1000000) (hf : ∀ x ∈ l, 0 ≤ x ∧ x < 64) {fin : List (List Int) → Option ρ} : forL (σ := List (List Int)) (fun (i43 : Nat) (x44 : Int) row_31 =>
              forL (σ := Bool)
                (fun (i51 : Nat) (x52 : Int) u_48 =>
                  if u_48 = true then
                    if (x52 == x44) = true then
                      some (.inl true)
                    else
                      some (.inl ((andI .i64 x52 x44) != x52))
                  else
                    some (.inl false))
                (fun u_48 =>
                  if u_48 = true then
                    (i_chosen (frL m n) x44).bind fun v53 =>
                    chk (row_31.length + 1 ≤ 1073741824) <|
                    some (.inl (row_31 ++ [v53]))
                  else
                    some (.inl row_31))
                l 0 true) fin l 0 [] = fin ((leastL l).map fun s => chosenL (frL m n) s.toNat 0) := by
  unfold leastL
  rw [forL_rec (fun q i acc => fin (acc ++ (q.filter (goodB l)).map fun s => chosenL (frL m n) s.toNat 0)) (fun q i acc => acc.length + q.length ≤ l.length ∧ ∀ x ∈ q, x ∈ l) (fun i acc _ => by simp) (fun x q i acc hI => by
    left
    obtain ⟨h1, h2⟩ := hI
    simp only [List.length_cons] at h1
    have mx := h2 x (by simp)
    have hx := hf x mx
    rw [least_loop hf mx]
    cases hg : goodB l x with
    | true =>
      rw [if_pos rfl]
      obtain ⟨k, rfl⟩ := Int.eq_ofNat_of_zero_le hx.1
      rw [i_chosen_eq _ (by omega) (by rw [frL_len]; omega), Option.bind_some, chk_pos _ (by omega)]
      exact ⟨_, rfl, ⟨by simp; omega, fun y my => h2 y (by simp [my])⟩, by simp [hg]⟩
    | false =>
      rw [if_neg (by simp)]
      exact ⟨_, rfl, ⟨by omega, fun y my => h2 y (by simp [my])⟩, by simp [hg]⟩) l 0 [] ⟨by simp, fun x mx => mx⟩]
  simp
theorem RepairsU_eq (hv : isFrameB f = true) (hs : SmallF f) (h13 : f.beliefs.reasons.length ≤ 13) : i_RepairsU (bP f) f.bad (fr f) = some ((leastL (repL f)).map fun s => chosenL (fr f) s.toNat 0) := by
  have h6 := FrOk.a6 hv
  have hfl : (fr f).length = f.assumed.length := frL_len _ _
  obtain ⟨e, e64⟩ := shl_MF h6
  unfold i_RepairsU
  rw [chk_pos _ (by omega), hfl, e]
  refine (iter_range (f := setF (repB f)) (fin := fun row => if row = repL f then some ((leastL (repL f)).map fun s => chosenL (fr f) s.toNat 0) else none) (fun k row => row = (List.range' 0 k).foldl (setF (repB f)) []) (MF f) ?_ ?_ (MF f) 0 [] (by omega) rfl).trans ?_
  · intro k row hk hI
    have hlen : row.length ≤ k := by
      rw [hI]
      have := (setL_spec (repB f) k).2.1
      exact this
    refine ⟨?_, by rw [hI, List.range'_1_concat, List.foldl_append]; simp⟩
    show (if decide (((k : Nat) : Int) < ((MF f : Nat) : Int)) = true then _ else _) = _
    rw [if_pos (by simp only [decide_eq_true_eq]; omega)]
    obtain ⟨c, d, q, q1, _, q2, q3, q4⟩ := repair_step hv hs h13 (s := k) (by omega)
    rw [q1, Option.bind_some, q2, Option.bind_some, q3, Option.bind_some, q4, i64_succ (by omega)]
    unfold setF
    cases repB f k with
    | false => simp
    | true => simp only [if_true]; rw [chk_pos _ (by omega)]
  · intro row hI
    show (if decide (((MF f : Nat) : Int) < ((MF f : Nat) : Int)) = true then _ else _) = _
    rw [if_neg (by simp)]
    obtain rfl : row = repL f := hI
    rw [if_pos rfl]
    have hlen : (repL f).length ≤ 64 := by have := (setL_spec (repB f) (MF f)).2.1; unfold repL; omega
    refine (filter_loop (m := f.beliefs.reasons.length) h6 (by omega) (repL_fit hv) (fin := fun row => (some (Sum.inr row) : Option ((List Int × Int) ⊕ List (List Int))))).trans ?_
    rfl
  · rw [if_pos]
    rfl
theorem leastL_can (hv : isFrameB f = true) : Canon (leastL (repL f)) (memP (repL f)) := by
  refine ⟨List.Pairwise.sublist List.filter_sublist (setL_spec (repB f) (MF f)).1, fun y => ?_⟩
  have hfit : Fit (repL f) := fun x mx => by have := repL_fit hv x mx; omega
  unfold leastL
  rw [List.mem_filter]
  constructor
  · rintro ⟨h1, h2⟩
    exact (goodB_iff hfit h1).1 h2
  · rintro ⟨h1, h2⟩
    have my : y ∈ repL f := by
      have := h2.1
      unfold memP at this
      rwa [Int.toNat_of_nonneg h1] at this
    exact ⟨my, (goodB_iff hfit my).2 ⟨h1, h2⟩⟩
theorem leastL_few (hv : isFrameB f = true) : (leastL (repL f)).length ≤ 20 := by
  have hc := leastL_can hv
  refine anti_few (A := memP (repL f)) hc.1 fun x mx => ?_
  obtain ⟨h1, h2⟩ := (hc.2 x).1 mx
  have := repL_fit hv x (List.mem_filter.1 mx |>.1)
  exact ⟨h1, this.2, h2⟩
/-- what is left without a set is consistent exactly if the set meets all nogoods -/
theorem rep_hit (hv : isFrameB f = true) {r : List Int} (hr : Canon r (fun s => s < MF f ∧ ngB f s = true)) (s : Nat) : memP (repL f) s ↔ Hit f.assumed.length (memP r) s := by
  have hm : memP (repL f) s ↔ s < MF f ∧ Cons f (comp f s) := by
    unfold memP
    rw [repL_mem]
    constructor
    · rintro ⟨k, h1, h2, h3⟩
      obtain rfl : s = k := by omega
      exact ⟨h1, of_decide_eq_true h3⟩
    · rintro ⟨h1, h2⟩
      exact ⟨s, h1, rfl, decide_eq_true h2⟩
  have hng : ∀ x, ngB f x = true ↔ ¬ Cons f x := fun x => by simp [ngB]
  rw [hm]
  unfold Hit
  refine and_congr_right fun hs => ⟨fun hc x hx => ?_, fun h => ?_⟩
  · obtain ⟨⟨x1, x2⟩, _⟩ := (hr.memP x).1 hx
    refine Classical.byContradiction fun hn => (hng x).1 x2 (hc.anti (part_iff.2 fun i hi => ?_))
    have hil := bits_lt x1 hi
    rw [comp_bit hil]
    cases hb : s.testBit i with
    | false => rfl
    | true => exact absurd (meets_iff.2 ⟨i, hb, hi⟩) hn
  · refine Classical.byContradiction fun hn => ?_
    obtain ⟨b, hb, hp⟩ := min_of (A := fun s => s < MF f ∧ ngB f s = true) ⟨comp_lt hs, (hng _).2 hn⟩
    obtain ⟨i, h1, h2⟩ := meets_iff.1 (h b ((hr.memP b).2 hb))
    have h3 := part_iff.1 hp i h2
    rw [comp_bit (bits_lt hs h1), h1] at h3
    simp at h3
theorem mod_bit (s i : Nat) : s % 2 ^ (i + 1) = s % 2 ^ i + 2 ^ i * (s.testBit i).toNat := by
  rw [Nat.mod_pow_succ, Nat.testBit_eq_decide_div_mod_eq]
  rcases Nat.mod_two_eq_zero_or_one (s / 2 ^ i) with h | h <;> simp [h]
theorem set_back {ρ : Type} {m n : Nat} (hn : n ≤ 6) {s : Nat} (hs : s < 2 ^ n) {fin : Int → Option ρ} : forL (σ := Int)
                (fun (i55 : Nat) (x56 : Int) u_50 =>
                  (w_hasInt (chosenL (frL m n) s 0) x56).bind fun v57 =>
                  if v57 = true then
                    chk (¬ ((i55 : Nat) : Int) < 0) <|
                    some (.inl (IntKind.i64.wrap (u_50 + (shlI .i64 1 ((i55 : Nat) : Int)))))
                  else
                    some (.inl u_50)) fin (frL m n) 0 0 = fin ((s : Nat) : Int) := by
  have hp : 2 ^ n ≤ 64 := by
    have := Nat.pow_le_pow_right (n := 2) (by omega) hn
    omega
  have hd : ∀ d i, i + d = n → ∀ q : List Int, q = (frL m n).drop i → forL (σ := Int)
                (fun (i55 : Nat) (x56 : Int) u_50 =>
                  (w_hasInt (chosenL (frL m n) s 0) x56).bind fun v57 =>
                  if v57 = true then
                    chk (¬ ((i55 : Nat) : Int) < 0) <|
                    some (.inl (IntKind.i64.wrap (u_50 + (shlI .i64 1 ((i55 : Nat) : Int)))))
                  else
                    some (.inl u_50)) fin q i ((s % 2 ^ i : Nat) : Int) = fin ((s : Nat) : Int) := by
    intro d
    induction d with
    | zero =>
      intro i hi q hq
      obtain rfl : i = n := by omega
      rw [List.drop_of_length_le (by rw [frL_len]; exact Nat.le_refl _)] at hq
      rw [hq, forL_nil, Nat.mod_eq_of_lt hs]
    | succ d ih =>
      intro i hi q hq
      have hin : i < n := by omega
      rw [List.drop_eq_getElem_cons (by rw [frL_len]; exact hin)] at hq
      have hx : (frL m n)[i]'(by rw [frL_len]; exact hin) = ((m + i : Nat) : Int) := by
        have := frL_at (m := m) hin
        exact (List.getElem?_eq_some_iff.1 this).2
      rw [hx] at hq
      rw [hq]
      obtain ⟨e, _⟩ := shl_pow (n := ((i : Nat) : Int)) (by omega) (by omega)
      rw [Int.toNat_natCast] at e
      have hmod := mod_bit s i
      have hlt : s % 2 ^ i < 2 ^ i := Nat.mod_lt _ (Nat.two_pow_pos i)
      have h2i : 2 ^ i ≤ 64 := Nat.le_trans (Nat.pow_le_pow_right (by omega) (by omega)) hp
      refine (forL_next (s' := ((s % 2 ^ (i + 1) : Nat) : Int)) ?_).trans (ih (i + 1) (by omega) _ rfl)
      rw [w_hasInt_eq, Option.bind_some, has_fr hin]
      cases hb : s.testBit i with
      | true =>
        rw [hb] at hmod
        rw [if_pos rfl, chk_pos _ (by omega), e, wrap_ok (by omega) (by omega), hmod]
        simp
      | false =>
        rw [hb] at hmod
        rw [if_neg (by simp), hmod]
        simp
  have h0 := hd n 0 (by omega) _ rfl
  rw [List.drop_zero] at h0
  refine Eq.trans ?_ h0
  congr 1
  omega
end
theorem FnRepairsHit_plain (code : List Int) : w_FnRepairsHit code = some true := by
  unfold w_FnRepairsHit w_big
  simp only [Option.bind_some]
  cases hd : decide (4096 < ((code.length : Nat) : Int)) with
  | true => rfl
  | false =>
  have hlen : code.length ≤ 4096 := by simp at hd; omega
  rw [if_neg (by simp)]
  obtain ⟨f, e1, hv, hs, h13⟩ := DrawGoodFrame_few code hlen
  have h6 := FrOk.a6 hv
  have hok := FrOk.of hv
  have hfl : (fr f).length = f.assumed.length := frL_len _ _
  obtain ⟨eM, e64⟩ := shl_MF h6
  rw [e1, Option.bind_some, premises_eq hv hs h13, Option.bind_some]
  dsimp only
  rw [if_pos rfl, if_neg (by rw [hfl]; simp)]
  have hrep : i_LeastRepairs (bP f) f.bad (fr f) = some (sortR ((leastL (repL f)).map fun s => chosenL (fr f) s.toNat 0)) := by
    unfold i_LeastRepairs
    rw [case_true hv hs h13, Option.bind_some, if_pos rfl, RepairsU_eq hv hs h13, Option.bind_some, if_pos (by rw [List.length_map]; exact leastL_few hv)]
  obtain ⟨r, r1, r2, r3, r4⟩ := i_Nogoods_can hv hs
  obtain ⟨h, h1, h2, h3, h4⟩ := i_Hit_can (l := r) (n := ((f.assumed.length : Nat) : Int)) (by omega) (by omega) (fun x mx => by
    have := r3 x mx
    rw [Int.toNat_natCast]
    exact ⟨this.1, this.2.1⟩)
  rw [Int.toNat_natCast] at h2 h3
  have hsame : leastL (repL f) = h := (leastL_can hv).eq h2 (Cof.of fun s hs' => (rep_hit hv r2 s).1 hs') (Cof.of fun s hs' => (rep_hit hv r2 s).2 hs')
  rw [hrep, Option.bind_some, r1, Option.bind_some, hfl, h1, Option.bind_some, sortR_len, List.length_map, hsame, if_neg (by simp)]
  have hin : ∀ x ∈ sortR (h.map fun s => chosenL (fr f) s.toNat 0), ∃ s : Nat, s < 2 ^ f.assumed.length ∧ ((s : Nat) : Int) ∈ h ∧ x = chosenL (fr f) s 0 := fun x mx => by
    obtain ⟨s, ms, rfl⟩ := List.mem_map.1 ((sortR_perm _).mem_iff.1 mx)
    have := h3 s ms
    exact ⟨s.toNat, by omega, by rw [Int.toNat_of_nonneg this.1]; exact ms, rfl⟩
  obtain ⟨lb, q1, q2⟩ := i_labels_eq (b := bP f) hok.n0 (by have := hok.n1; show f.beliefs.nodes ≤ 1000; omega) (by simp only [bP, List.length_append, List.length_map]; omega) (bP_okR hv)
  have hlab : i_LabelsOf (bP f) = some lb := by
    unfold i_LabelsOf
    rw [strat_true hv hs h13, Option.bind_some, if_pos rfl, q1, Option.bind_some]
  have hpos := MF_pos f
  have hall : ∀ x, Der (bP f).reasons x ↔ UnF f (MF f - 1) x := fun x => by
    have key : ∀ r, r ∈ (bP f).reasons ↔ r ∈ RF f (MF f - 1) := fun r => by
      unfold RF
      simp only [bP, List.mem_append, List.mem_map]
      refine or_congr_right ⟨fun ⟨a, ma, e⟩ => ⟨a, ?_, e⟩, fun ⟨a, ma, e⟩ => ⟨a, ?_, e⟩⟩
      · obtain ⟨j, hj⟩ := List.mem_iff_getElem?.1 ma
        refine mem_chosenL.2 ⟨j, hj, ?_⟩
        rw [Nat.zero_add]
        unfold MF
        rw [Nat.testBit_two_pow_sub_one]
        exact decide_eq_true (List.getElem?_eq_some_iff.1 hj).1
      · obtain ⟨j, hj, _⟩ := mem_chosenL.1 ma
        exact List.mem_of_getElem? hj
    exact ⟨fun h => h.mono fun r mr => (key r).1 mr, fun h => Der.mono (fun r mr => (key r).2 mr) h⟩
  obtain ⟨nd, n1, n2⟩ := i_nodes_eq hv hs (s := MF f - 1) (by omega)
  rw [forL_all (p := fun _ => true) (r := false)]
  · rw [if_pos (by simp), hlab, Option.bind_some, chk_pos _ (by omega), eM, wrap_ok (by omega) (by omega), show ((MF f : Nat) : Int) - 1 = ((MF f - 1 : Nat) : Int) by omega, n1, Option.bind_some, forL_allI (p := fun _ _ => true) (r := false)]
    · have ht : ∀ (l : List Bool) (i : Nat), allI (fun (_ : Nat) (_ : Bool) => true) l i = true := fun l => by
        induction l with
        | nil => intro i; rfl
        | cons x l ih => intro i; simp [allI, ih]
      rw [if_pos (ht lb 0), q2.len]
      have := hok.n0
      show some (_ == f.beliefs.nodes) = _
      have e : (((bP f).nodes.toNat : Nat) : Int) = f.beliefs.nodes := Int.toNat_of_nonneg this
      rw [e]; simp
    · intro j x hx
      rw [Nat.zero_add, w_hasInt_eq, Option.bind_some]
      have hj : j < (bP f).nodes.toNat := by rw [← q2.len]; exact (List.getElem?_eq_some_iff.1 hx).1
      have h5 := q2.iff j hj
      rw [hx, hall, ← n2] at h5
      have : x = hasB nd ((j : Nat) : Int) := by
        rw [Bool.eq_iff_iff, hasB_iff, ← h5]
        simp
      rw [this]
      simp
  · intro i x mx
    obtain ⟨s, s1, s2, rfl⟩ := hin x mx
    have := set_back (m := f.beliefs.reasons.length) (ρ := Unit ⊕ Bool) h6 s1 (fin := fun u_50 =>
          (w_hasInt h u_50).bind fun v58 =>
          if v58 = true then
            some (.inl ())
          else
            some (.inr false))
    refine this.trans ?_
    rw [w_hasInt_eq, Option.bind_some, if_pos (hasB_iff.2 s2)]
    rfl
end
section
open Go.RowKit
def All2 {α β : Type} (R : α → β → Prop) : List α → List β → Prop
  | [], [] => True
  | a :: l, b :: r => R a b ∧ All2 R l r
  | _, _ => False
section
variable {α β : Type} {R R' : α → β → Prop}
theorem All2.len : ∀ {l : List α} {r : List β}, All2 R l r → l.length = r.length
  | [], [], _ => rfl
  | _ :: _, _ :: _, h => by simp [h.2.len]
  | [], _ :: _, h => h.elim
  | _ :: _, [], h => h.elim
theorem All2.mono : ∀ {l : List α} {r : List β}, All2 R l r → (∀ a b, a ∈ l → R a b → R' a b) → All2 R' l r
  | [], [], _, _ => trivial
  | _ :: _, _ :: _, h, f => ⟨f _ _ (by simp) h.1, h.2.mono fun a b m => f a b (by simp [m])⟩
  | [], _ :: _, h, _ => h.elim
  | _ :: _, [], h, _ => h.elim
theorem All2.at : ∀ {l : List α} {r : List β} {i : Nat} {a : α}, All2 R l r → l[i]? = some a → ∃ b, r[i]? = some b ∧ R a b
  | [], [], _, _, _, h => by simp at h
  | _ :: _, b :: _, 0, _, h, e => by simp at e; subst e; exact ⟨b, by simp, h.1⟩
  | _ :: _, _ :: _, i + 1, a, h, e => by
    obtain ⟨b, h1, h2⟩ := h.2.at (i := i) (a := a) (by simpa using e)
    exact ⟨b, by simpa using h1, h2⟩
  | [], _ :: _, _, _, h, _ => h.elim
  | _ :: _, [], _, _, h, _ => h.elim
theorem All2.set : ∀ {l : List α} {r : List β} {i : Nat} {a : α} {b : β}, All2 R l r → R a b → All2 R (l.set i a) (r.set i b)
  | [], [], _, _, _, _, _ => trivial
  | _ :: _, _ :: _, 0, _, _, h, e => ⟨e, h.2⟩
  | _ :: _, _ :: _, _ + 1, _, _, h, e => ⟨h.1, h.2.set e⟩
  | [], _ :: _, _, _, _, h, _ => h.elim
  | _ :: _, [], _, _, _, h, _ => h.elim
theorem All2.drop : ∀ {l : List α} {r : List β} (n : Nat), All2 R l r → All2 R (l.drop n) (r.drop n)
  | _, _, 0, h => by simpa using h
  | [], [], n + 1, _ => by simp [All2]
  | _ :: _, _ :: _, n + 1, h => by simpa using h.2.drop n
  | [], _ :: _, _ + 1, h => h.elim
  | _ :: _, [], _ + 1, h => h.elim
theorem All2.take : ∀ {l : List α} {r : List β} (n : Nat), All2 R l r → All2 R (l.take n) (r.take n)
  | _, _, 0, h => by simp [All2]
  | [], [], n + 1, _ => by simp [All2]
  | _ :: _, _ :: _, n + 1, h => by simpa using ⟨h.1, h.2.take n⟩
  | [], _ :: _, _ + 1, h => h.elim
  | _ :: _, [], _ + 1, h => h.elim
theorem All2.append : ∀ {l l' : List α} {r r' : List β}, All2 R l r → All2 R l' r' → All2 R (l ++ l') (r ++ r')
  | [], _, [], _, _, h => h
  | _ :: _, _, _ :: _, _, h, h' => ⟨h.1, h.2.append h'⟩
  | [], _, _ :: _, _, h, _ => h.elim
  | _ :: _, _, [], _, h, _ => h.elim
end
/-- the block from which on blocks are the call's own -/
class NW where
  B0 : Nat
/-- what stands behind the keys: the value, the block that it writes to, the blocks that its elements lead to -/
structure Gh where
  val : Nat → Value
  O : Nat → List Nat
  D : Nat → List Nat
  Z : Nat → Prop
/-- a block that may be written to: a row's or a box's of this call, or one of a call below (Z) -/
def Gh.own (g : Gh) (b : Nat) : Prop := (∃ k, b ∈ g.O k) ∨ g.Z b
/-- a block that may be written to, or that a row of the call's own leads to -/
def Gh.low (g : Gh) (b : Nat) : Prop := g.own b ∨ ∃ k, b ∈ g.D k
/-- what is the call's own was so before, or is new -/
structure OGrow (g g' : Gh) (n : Nat) : Prop where
  own : ∀ b, g'.own b → g.own b ∨ n ≤ b
  low : ∀ b, g'.low b → g.low b ∨ n ≤ b
structure OLess (g' g : Gh) : Prop where
  own : ∀ b, g'.own b → g.own b
  low : ∀ b, g'.low b → g.low b
theorem OGrow.refl (g : Gh) (n : Nat) : OGrow g g n := ⟨fun _ h => .inl h, fun _ h => .inl h⟩
theorem OLess.refl (g : Gh) : OLess g g := ⟨fun _ h => h, fun _ h => h⟩
theorem OLess.trans {a b c : Gh} (h : OLess a b) (k : OLess b c) : OLess a c := ⟨fun x hx => k.own x (h.own x hx), fun x hx => k.low x (h.low x hx)⟩
theorem OLess.grow {g' g : Gh} (h : OLess g' g) (n : Nat) : OGrow g g' n := ⟨fun x hx => .inl (h.own x hx), fun x hx => .inl (h.low x hx)⟩
theorem OLess.of {g' g : Gh} (h : ∀ b, g'.own b → g.own b) (k : ∀ j b, b ∈ g'.D j → ∃ i, b ∈ g.D i) : OLess g' g := ⟨h, fun x hx => hx.imp (h x) fun ⟨j, mj⟩ => k j x mj⟩
theorem OGrow.of {g g' : Gh} {n : Nat} (h : ∀ b, g'.own b → g.own b ∨ n ≤ b) (k : ∀ j b, b ∈ g'.D j → g.low b ∨ n ≤ b) : OGrow g g' n := ⟨h, fun x hx => by
  rcases hx with hx | ⟨j, mj⟩
  · exact (h x hx).imp (fun q => .inl q) id
  · exact k j x mj⟩
/-- the world at the call's start, the blocks that calls below may write to (z), those that were handed in to be written to (x), and the first argument if it was handed in (hv) -/
structure Base extends World where
  z : Nat → Prop
  x : Nat → Prop
  hv : Option Value
structure Bel (W : Base) (w : World) : Prop where
  os : w.os = W.os
  tape : w.tape = W.tape
  output : w.output = W.output
  size : W.heap.size ≤ w.heap.size
  block : ∀ k, k < W.heap.size → ¬ W.x k → w.heap[k]? = W.heap[k]?
theorem Bel.trans {W : Base} {w w' : World} (h : Bel W w) (k : Below w.heap.size w w') : Bel W w' :=
  ⟨k.os.trans h.os, k.tape.trans h.tape, k.output.trans h.output, Nat.le_trans h.size k.size, fun i hi hx => (k.block i (Nat.lt_of_lt_of_le hi h.size)).trans (h.block i hi hx)⟩
/-- a row that the call has made, only read by now -/
def NR [NW] (g : Gh) (w : World) (x : CT) (v : Value) : Prop :=
  ∃ e m xs cs L, x = .sl e m xs ∧ 0 < m ∧ w.ownsV 0 e m v xs.length cs ∧ REs w m xs cs L ∧ (v.ownBlock.toList ++ L).Nodup ∧ ∀ b ∈ v.ownBlock.toList ++ L, ¬ g.low b ∧ NW.B0 ≤ b ∧ ∃ cur t, w.heap[b]? = some (.cells cur t (0, 0))
def AVR [NW] (g : Gh) (w : World) : AV → Value → Prop
  | .c x, v => ∃ L, RC w x v L ∧ ∀ b ∈ L, ¬ g.own b
  | .n x, v => NR g w x v
  | .row k, v => v = g.val k ∧ v.oneCell' = true
  | .nil _ _, v => v = .slice none 0 0
  | .dead, v => v.oneCell' = true
def PVR [NW] (g : Gh) (w : World) : Bool → List AV → Value → Prop
  | true, cs, v => ∃ vs : List Value, v = .agg vs.toArray ∧ All2 (AVR g w) cs vs
  | false, cs, v => ∃ x, cs = [x] ∧ AVR g w x v
def SVR [NW] (g : Gh) (w : World) : SV → Value → Prop
  | .any, _ => True
  | .und, v => v = undef
  | .p a cs, v => PVR g w a cs v
  | .tup xs, v => ∃ vs : List Value, v = .tuple vs.toArray ∧ All2 (fun x u => PVR g w x.1 x.2 u) xs vs
  | .bp k off, v => ∃ b, g.val k = .pointer (some ⟨b, 0, none⟩) ∧ v = .pointer (some ⟨b, off, none⟩)
  | .rp k m i off, v => ∃ b o n c, g.val k = .slice (some ⟨b, o, none⟩) n c ∧ v = .pointer (some ⟨b, o + (i * m + off), none⟩)
  | .ep e off, v => ∃ b lo cs L, v = .pointer (some ⟨b, lo + off, none⟩) ∧ CellsAt w b lo cs ∧ RCs w e cs L ∧ (∀ x ∈ b :: L, ¬ g.own x) ∧ b < w.heap.size
  | .fn f, v => v = .func (.func f) #[] #[]
def ObR [NW] (g : Gh) (w : World) (k : Nat) : Ob → Prop
  | .gone => g.O k = [] ∧ g.D k = []
  | .box t cs => ∃ b vs, g.val k = .pointer (some ⟨b, 0, none⟩) ∧ g.O k = [b] ∧ g.D k = [] ∧ w.heap[b]? = some (.cells vs.toArray t (0, 0)) ∧ All2 (AVR g w) cs vs
  | .row e m xs d => 0 < m ∧ ∃ cs L, w.ownsV 0 e m (g.val k) xs.length cs ∧ REs w m xs cs L ∧ ((d = 2 ∧ g.O k = (g.val k).ownBlock.toList ∧ g.D k = L) ∨ (d = 1 ∧ g.O k = (g.val k).ownBlock.toList ∧ g.D k = [] ∧ ∀ b ∈ L, ¬ g.own b) ∨ (d = 0 ∧ g.O k = [] ∧ g.D k = [] ∧ ∀ b ∈ (g.val k).ownBlock.toList ++ L, ¬ g.own b))
  | .map kk vk kv => ∃ b es c, g.val k = .map (some b) ∧ g.O k = [b] ∧ g.D k = [] ∧ w.heap[b]? = some (.map es c) ∧ mapOf es = kv ∧ mapOk kk vk kv
/-- what a row, a box or a map is in the heap -/
def PlainAt (w : World) (o : Ob) (b : Nat) : Prop :=
  match o with
  | .map _ _ _ => ∃ es c, w.heap[b]? = some (.map es c)
  | _ => ∃ cur e, w.heap[b]? = some (.cells cur e (0, 0))
theorem PlainAt.lt {w : World} {o : Ob} {b : Nat} (h : PlainAt w o b) : b < w.heap.size := by
  unfold PlainAt at h
  split at h
  · obtain ⟨_, _, h⟩ := h; exact (Array.getElem?_eq_some_iff.1 h).1
  · obtain ⟨_, _, h⟩ := h; exact (Array.getElem?_eq_some_iff.1 h).1
theorem PlainAt.keep {w w' : World} {o : Ob} {b : Nat} (h : PlainAt w o b) (e : w'.heap[b]? = w.heap[b]?) : PlainAt w' o b := by
  unfold PlainAt at h ⊢
  rw [e]; exact h
def mapB : Ob → Bool
  | .map _ _ _ => true
  | _ => false
theorem PlainAt.of {w : World} {o o' : Ob} {b : Nat} (h : PlainAt w o b) (e : mapB o' = mapB o) : PlainAt w o' b := by
  cases o <;> cases o' <;> simp [mapB] at e <;> exact h
structure HI [NW] (W : Base) (g : Gh) (ob : Nat → Ob) (w : World) : Prop where
  below : Bel W w
  obs : ∀ k, ObR g w k (ob k)
  nodup : ∀ k, (g.O k ++ g.D k).Nodup
  apart : ∀ k j, k ≠ j → ∀ b ∈ g.O k ++ g.D k, b ∉ g.O j ++ g.D j
  plain : ∀ k, ∀ b ∈ g.O k ++ g.D k, (W.heap.size ≤ b ∨ W.x b) ∧ PlainAt w (ob k) b
  gz : g.Z = W.z
  zx : ∀ b, W.z b → b < W.heap.size ∧ ¬ W.x b
  nw : ∀ b, (W.heap.size ≤ b ∨ W.x b) → NW.B0 ≤ b
/-- the keys that a state names -/
def avU (U : Nat → Prop) : AV → Prop
  | .row k => U k
  | _ => True
def avsU (U : Nat → Prop) (cs : List AV) : Prop := ∀ x ∈ cs, avU U x
def svU (U : Nat → Prop) : SV → Prop
  | .p _ cs => avsU U cs
  | .tup xs => ∀ x ∈ xs, avsU U x.2
  | .bp k _ => U k
  | .rp k _ _ _ => U k
  | _ => True
def obU (U : Nat → Prop) : Ob → Prop
  | .box _ cs => avsU U cs
  | _ => True
structure StU (U : Nat → Prop) (st : St) : Prop where
  sl : ∀ t, svU U (st.sl t)
  ob : ∀ k, obU U (st.ob k)
  gone : ∀ k, ¬ U k → st.ob k = .gone
theorem HI.lt [NW] {W : Base} {g : Gh} {ob : Nat → Ob} {w : World} (h : HI W g ob w) (k : Nat) : ∀ b ∈ g.O k ++ g.D k, b < w.heap.size := by
  intro b m
  exact (h.plain k b m).2.lt
/-- what a row or a box leads to is no block of a call below -/
theorem HI.nz [NW] {W : Base} {g : Gh} {ob : Nat → Ob} {w : World} (h : HI W g ob w) {k b : Nat} (m : b ∈ g.O k ++ g.D k) : ¬ g.Z b := fun hz => by
  rw [h.gz] at hz
  obtain ⟨h1, h2⟩ := h.zx b hz
  rcases (h.plain k b m).1 with h3 | h3
  · omega
  · exact h2 h3
section
variable {g g' : Gh} {w w' : World} {U : Nat → Prop}
theorem NR.move [NW] {x : CT} {v : Value} (h : NR g w x v)
    (hw : ∀ b, b < w.heap.size → ¬ g.own b → w'.heap[b]? = w.heap[b]?) (ho : OGrow g g' w.heap.size) : NR g' w' x v := by
  obtain ⟨e, m, xs, cs, L, h1, h2, h3, h4, h5, h6⟩ := h
  have hlt : ∀ b ∈ v.ownBlock.toList ++ L, b < w.heap.size := fun b mb => by
    obtain ⟨_, _, _, _, q⟩ := h6 b mb
    exact (Array.getElem?_eq_some_iff.1 q).1
  have hs : ∀ b ∈ v.ownBlock.toList ++ L, w'.heap[b]? = w.heap[b]? := fun b mb => hw b (hlt b mb) fun o => (h6 b mb).1 (.inl o)
  refine ⟨e, m, xs, cs, L, h1, h2, ownsV_keep h3 fun b mb => hs b (by simp [mb]), h4.keep fun b mb => hs b (by simp [mb]), h5, fun b mb => ⟨fun o => ?_, (h6 b mb).2.1, by rw [hs b mb]; exact (h6 b mb).2.2⟩⟩
  rcases ho.low b o with o | o
  · exact (h6 b mb).1 o
  · have := hlt b mb; omega
theorem AVR.move [NW] {x : AV} {v : Value} (h : AVR g w x v) (hx : avU U x) (hv : ∀ k, U k → g'.val k = g.val k)
    (hw : ∀ b, b < w.heap.size → ¬ g.own b → w'.heap[b]? = w.heap[b]?) (ho : OGrow g g' w.heap.size) : AVR g' w' x v := by
  cases x with
  | c x =>
    obtain ⟨L, h1, h2⟩ := h
    have hlt := h1.lt
    refine ⟨L, h1.keep fun b m => hw b (hlt b m) (h2 b m), fun b m o => ?_⟩
    rcases ho.own b o with o | o
    · exact h2 b m o
    · have := hlt b m; omega
  | n x => exact NR.move h hw ho
  | row k => exact ⟨h.1.trans (hv k hx).symm, h.2⟩
  | nil e m => exact h
  | dead => exact h
theorem AVRs.move [NW] {cs : List AV} {vs : List Value} (h : All2 (AVR g w) cs vs) (hx : avsU U cs) (hv : ∀ k, U k → g'.val k = g.val k)
    (hw : ∀ b, b < w.heap.size → ¬ g.own b → w'.heap[b]? = w.heap[b]?) (ho : OGrow g g' w.heap.size) : All2 (AVR g' w') cs vs :=
  h.mono fun a _ m r => r.move (hx a m) hv hw ho
theorem PVR.move [NW] {a : Bool} {cs : List AV} {v : Value} (h : PVR g w a cs v) (hx : avsU U cs) (hv : ∀ k, U k → g'.val k = g.val k)
    (hw : ∀ b, b < w.heap.size → ¬ g.own b → w'.heap[b]? = w.heap[b]?) (ho : OGrow g g' w.heap.size) : PVR g' w' a cs v := by
  cases a with
  | true => obtain ⟨vs, h1, h2⟩ := h; exact ⟨vs, h1, AVRs.move h2 hx hv hw ho⟩
  | false => obtain ⟨x, h1, h2⟩ := h; exact ⟨x, h1, h2.move (hx x (by simp [h1])) hv hw ho⟩
theorem SVR.move [NW] {s : SV} {v : Value} (h : SVR g w s v) (hx : svU U s) (hv : ∀ k, U k → g'.val k = g.val k)
    (hw : ∀ b, b < w.heap.size → ¬ g.own b → w'.heap[b]? = w.heap[b]?) (ho : OGrow g g' w.heap.size) (hs : w.heap.size ≤ w'.heap.size) : SVR g' w' s v := by
  cases s with
  | any => exact h
  | und => exact h
  | p a cs => exact PVR.move h hx hv hw ho
  | tup xs =>
    obtain ⟨vs, h1, h2⟩ := h
    exact ⟨vs, h1, h2.mono fun x _ m r => r.move (hx x m) hv hw ho⟩
  | bp k off => obtain ⟨b, h1, h2⟩ := h; exact ⟨b, (hv k hx).trans h1, h2⟩
  | rp k m i off => obtain ⟨b, o, n, c, h1, h2⟩ := h; exact ⟨b, o, n, c, (hv k hx).trans h1, h2⟩
  | ep e off =>
    obtain ⟨b, lo, cs, L, h1, h2, h3, h4, h5⟩ := h
    have hlt := h3.lt
    refine ⟨b, lo, cs, L, h1, fun j u hu => ?_, h3.keep fun x m => hw x (hlt x m) (h4 x (by simp [m])), fun x m o => ?_, by omega⟩
    · rw [← h2 j u hu]; exact World.cell?_of_block (hw b h5 (h4 b (by simp)))
    · rcases ho.own x o with o | o
      · exact h4 x m o
      · rcases List.mem_cons.1 m with rfl | m
        · omega
        · have := hlt x m; omega
  | fn f => exact h
/-- a step of the world and of what stands behind the keys: the keys in T are turned, the others stay -/
theorem HI.step [NW] {W : Base} {ob ob' : Nat → Ob} (h : HI W g ob w) (T : Nat → Prop)
    (hbel : Bel W w') (hZ : g'.Z = g.Z)
    (hw : ∀ b, b < w.heap.size → (∀ k, T k → b ∉ g.O k) → w'.heap[b]? = w.heap[b]?)
    (hk : ∀ k, ¬ T k → ob' k = ob k ∧ g'.val k = g.val k ∧ g'.O k = g.O k ∧ g'.D k = g.D k)
    (hobU : ∀ k, obU U (ob k)) (hv : ∀ k, U k → g'.val k = g.val k)
    (ho : OGrow g g' w.heap.size)
    (hT : ∀ k, T k → ObR g' w' k (ob' k) ∧ (g'.O k ++ g'.D k).Nodup ∧ (∀ b ∈ g'.O k ++ g'.D k, (W.heap.size ≤ b ∨ W.x b) ∧ PlainAt w' (ob' k) b) ∧ ∀ j, k ≠ j → ∀ b ∈ g'.O k ++ g'.D k, b ∉ g'.O j ++ g'.D j) :
    HI W g' ob' w' := by
  have hw' : ∀ b, b < w.heap.size → ¬ g.own b → w'.heap[b]? = w.heap[b]? := fun b hb hn => hw b hb fun k _ m => hn (.inl ⟨k, m⟩)
  have hkeepF : ∀ k, ¬ T k → ∀ b ∈ g.O k ++ g.D k, w'.heap[b]? = w.heap[b]? := fun k hk b m =>
    hw b (h.lt k b m) fun j hj mj => h.apart j k (fun e => hk (e ▸ hj)) b (by simp [mj]) m
  refine ⟨hbel, fun k => ?_, fun k => ?_, fun k j hkj b m => ?_, fun k b m => ?_, hZ.trans h.gz, h.zx, h.nw⟩
  · by_cases hTk : T k
    · exact (hT k hTk).1
    · obtain ⟨e1, e2, e3, e4⟩ := hk k hTk
      have hob := h.obs k
      have hF := hkeepF k hTk
      have hU := hobU k
      rw [e1]
      cases hok : ob k with
      | gone => rw [hok] at hob; exact ⟨e3.trans hob.1, e4.trans hob.2⟩
      | box t cs =>
        rw [hok] at hob hU
        obtain ⟨b, vs, h1, h2, h3, h4, h5⟩ := hob
        exact ⟨b, vs, e2.trans h1, e3.trans h2, e4.trans h3, by rw [hF b (by simp [h2])]; exact h4, AVRs.move h5 hU hv hw' ho⟩
      | map kk vk kv =>
        rw [hok] at hob
        obtain ⟨b, es, c, h1, h2, h3, h4, h5⟩ := hob
        exact ⟨b, es, c, e2.trans h1, e3.trans h2, e4.trans h3, by rw [hF b (by simp [h2])]; exact h4, h5⟩
      | row e m xs d =>
        rw [hok] at hob
        obtain ⟨hm, cs, L, h1, h2, h4⟩ := hob
        have hltL := h2.lt
        have hL : ∀ b ∈ L, w'.heap[b]? = w.heap[b]? := fun b mb => by
          rcases h4 with ⟨_, _, h4⟩ | ⟨_, _, _, h4⟩ | ⟨_, _, _, h4⟩
          · exact hF b (by simp [h4, mb])
          · exact hw' b (hltL b mb) (h4 b mb)
          · exact hw' b (hltL b mb) (h4 b (by simp [mb]))
        have hOb : ∀ b ∈ (g.val k).ownBlock.toList, w'.heap[b]? = w.heap[b]? := fun b mb => by
          rcases h4 with ⟨_, h3, _⟩ | ⟨_, h3, _⟩ | ⟨_, _, _, h4⟩
          · exact hF b (by simp [h3, mb])
          · exact hF b (by simp [h3, mb])
          · exact hw' b (own_lt h1 b mb) (h4 b (by simp [mb]))
        refine ⟨hm, cs, L, by rw [e2]; exact ownsV_keep h1 hOb, h2.keep hL, ?_⟩
        rw [e2, e3, e4]
        have hno : ∀ b, b < w.heap.size → ¬ g.own b → ¬ g'.own b := fun b hb hn o => by
          rcases ho.own b o with o | o
          · exact hn o
          · omega
        rcases h4 with h4 | ⟨hd, h3, h4, h5⟩ | ⟨hd, h3, h4, h5⟩
        · exact .inl h4
        · exact .inr (.inl ⟨hd, h3, h4, fun b mb => hno b (hltL b mb) (h5 b mb)⟩)
        · refine .inr (.inr ⟨hd, h3, h4, fun b mb => ?_⟩)
          rcases List.mem_append.1 mb with m1 | m1
          · exact hno b (own_lt h1 b m1) (h5 b mb)
          · exact hno b (hltL b m1) (h5 b mb)
  · by_cases hTk : T k
    · exact (hT k hTk).2.1
    · obtain ⟨e1, e2, e3, e4⟩ := hk k hTk
      rw [e3, e4]; exact h.nodup k
  · by_cases hTk : T k
    · exact (hT k hTk).2.2.2 j hkj b m
    · by_cases hTj : T j
      · exact fun mj => (hT j hTj).2.2.2 k (fun e => hkj e.symm) b mj m
      · obtain ⟨_, _, e3, e4⟩ := hk k hTk
        obtain ⟨_, _, f3, f4⟩ := hk j hTj
        rw [e3, e4] at m
        rw [f3, f4]
        exact h.apart k j hkj b m
  · by_cases hTk : T k
    · exact (hT k hTk).2.2.1 b m
    · obtain ⟨_, _, e3, e4⟩ := hk k hTk
      rw [e3, e4] at m
      obtain ⟨p1, p2⟩ := h.plain k b m
      obtain ⟨e1, _⟩ := hk k hTk
      exact ⟨p1, by rw [e1]; exact p2.keep (hkeepF k hTk b m)⟩
end
/-- a state stands for a frame and a world -/
structure Inv [NW] (W : Base) (U : Nat → Prop) (st : St) (a : Act) (w : World) : Prop where
  ex : ∃ g, HI W g st.ob w ∧ ∀ t, SVR g w (st.sl t) (a.tmps.getD t undef)
  wf : StU U st
  defers : a.defers = []
  hand : ∀ v, W.hv = some v → a.tmps.getD 0 undef = v
end
section
open Go.RowKit
def constB : AV → Value → Bool
  | .c (.int k n), .int k' n' => k == k' && n == n'
  | .c (.bool b), .bool b' => b == b'
  | .c (.str s), .string s' => s.data.toList == s'.data.toList && strOk s
  | .nil _ m, .slice none 0 0 => Nat.blt 0 m
  | _, _ => false
def kindB : TypeDesc → AV → Bool
  | .int k, .c (.int k' _) => k == k'
  | .bool, .c (.bool _) => true
  | .string, .c (.str _) => true
  | _, _ => false
def aggD : TypeDesc → Bool
  | .struct _ => true
  | .array _ _ => true
  | _ => false
def kindP : PK → TypeDesc → Bool
  | .int k, .int k' => k == k'
  | .str, .string => true
  | .bool, .bool => true
  | _, _ => false
def EqF (P : Program) : List PK → List Field → Nat → Prop
  | [], [], _ => True
  | k :: ks, f :: fs, n => f.name ≠ "_" ∧ f.offset = n ∧ (∃ d, P.underlying f.type = some d ∧ kindP k d = true) ∧ EqF P ks fs (n + 1)
  | _, _, _ => False
def TOk (P : Program) (t : TypeId) : TI → Prop
  | .atom z => ∃ d zv i, P.underlying t = some d ∧ kindB d z = true ∧ P.info? t = some i ∧ i.zero = some zv ∧ i.size = 1 ∧ constB z zv = true
  | .strct fs n z => ∃ (fields : Array Field) (i : TypeInfo) (zvs : Array Value), P.underlying t = some (.struct fields) ∧ P.info? t = some i ∧ i.size = n ∧ i.zero = some (.agg zvs) ∧ All2 (fun a v => constB a v = true) z zvs.toList ∧
      All2 (fun (fi : FI) (f : Field) => f.offset = fi.off ∧ fi.size ≠ 0 ∧ ∃ j d, P.info? f.type = some j ∧ j.size = fi.size ∧ P.underlying f.type = some d ∧ aggD d = fi.agg) fs fields.toList
  | .slice e m bytes z => P.underlying t = some (.slice e) ∧ 0 < m ∧ bytes ≤ 131072 ∧ (∃ (i : TypeInfo) (zv : Value), P.info? e = some i ∧ i.size = m ∧ i.bytes = bytes ∧ i.zero = some zv ∧ All2 (fun a v => constB a v = true) z zv.cells.toList ∧ z.length = m) ∧
      ∃ j : TypeInfo, P.info? t = some j ∧ j.size = 1 ∧ j.zero = some (.slice none 0 0)
  | .ifc => ∃ ms, P.underlying t = some (.interface ms)
  | .map kk vk => ∃ kt et dk dv i zv, P.underlying t = some (.map kt et) ∧ P.underlying kt = some dk ∧ kindP kk dk = true ∧ P.underlying et = some dv ∧ kindP vk dv = true ∧ P.info? et = some i ∧ i.zero = some zv ∧ constB (zeroPK vk) zv = true
  | .eqs ks => ∃ u, t = u + 4000 ∧ P.underlying u = some (.struct (P.fieldsOf u)) ∧ P.stoodInHeld u = false ∧ P.eqGuardType P.depth u = false ∧ EqF P ks (P.fieldsOf u).toList 0
section
variable {P : Program} {w : World} {t : TypeId}
theorem run_info {i : TypeInfo} (h : P.info? t = some i) : (typeInfo t).run P w = .ok i w := by simp [typeInfo, program, Sem.run, h]
theorem run_und {d : TypeDesc} (h : P.underlying t = some d) : (underlying t).run P w = .ok d w := by simp [underlying, program, Sem.run, h]
theorem run_size [NW] {i : TypeInfo} (h : P.info? t = some i) : (sizeOf t).run P w = .ok i.size w := by simp [sizeOf, run_info h]
theorem run_zero [NW] {i : TypeInfo} {z : Value} (h : P.info? t = some i) (hz : i.zero = some z) : (zeroValue t).run P w = .ok z w := by simp [zeroValue, run_info h, hz]
theorem run_agg [NW] {d : TypeDesc} (h : P.underlying t = some d) : (isAgg t).run P w = .ok (aggD d) w := by
  simp only [isAgg, Sem.run_bind, run_und h, Result.andThen_ok]
  cases d <;> rfl
theorem kind_agg {d : TypeDesc} {z : AV} (h : kindB d z = true) : aggD d = false := by
  unfold kindB at h
  split at h <;> first | rfl | simp at h
end
section
variable {g : Gh} {w : World}
theorem strOk_le {s : ByteArray} (h : strOk s = true) : s.size ≤ 9223372036854775807 := by
  unfold strOk at h
  have := Nat.le_of_ble_eq_true h
  rw [Array.length_toList] at this
  exact this
theorem const_AVR [NW] {x : AV} {v : Value} (h : constB x v = true) : AVR g w x v := by
  unfold constB at h
  split at h
  · simp only [Bool.and_eq_true, beq_iff_eq] at h
    exact ⟨[], ⟨by rw [h.1, h.2], rfl⟩, by simp⟩
  · simp only [beq_iff_eq] at h
    exact ⟨[], ⟨by rw [h], rfl⟩, by simp⟩
  · rename_i s s'
    simp only [Bool.and_eq_true, beq_iff_eq] at h
    have e : s = s' := by
      cases s; cases s'
      simpa using h.1
    exact ⟨[], ⟨by rw [e], rfl, strOk_le h.2⟩, by simp⟩
  · rfl
  · simp at h
theorem AVR.one [NW] {x : AV} {v : Value} (h : AVR g w x v) : v.oneCell' = true := by
  cases x with
  | c x => obtain ⟨L, h1, _⟩ := h; exact h1.one
  | n x =>
    obtain ⟨e, m, xs, cs, L, h1, h2, h3, _⟩ := h
    obtain ⟨A, c, hv, _⟩ := ownV_slice h3
    simp [hv, Value.oneCell']
  | row k => exact h.2
  | nil e m => simp [AVR] at h; simp [h, Value.oneCell']
  | dead => exact h
theorem cells_one {v : Value} (h : v.oneCell' = true) : v.cells = #[v] := by
  cases v <;> simp [Value.oneCell'] at h <;> rfl
theorem PVR.cells [NW] {a : Bool} {cs : List AV} {v : Value} (h : PVR g w a cs v) : ∃ vs : List Value, v.cells = vs.toArray ∧ All2 (AVR g w) cs vs := by
  cases a with
  | true => obtain ⟨vs, rfl, h2⟩ := h; exact ⟨vs, rfl, h2⟩
  | false => obtain ⟨x, rfl, h2⟩ := h; exact ⟨[v], by rw [cells_one h2.one], ⟨h2, trivial⟩⟩
theorem AVRs.one [NW] {cs : List AV} {vs : List Value} (h : All2 (AVR g w) cs vs) : ∀ u ∈ vs, u.oneCell' = true := by
  induction vs generalizing cs with
  | nil => simp
  | cons v r ih =>
    cases cs with
    | nil => exact h.elim
    | cons c cs =>
      intro u m
      rcases List.mem_cons.1 m with rfl | m
      · exact h.1.one
      · exact ih h.2 u m
end
theorem ba_list (x y : ByteArray) : (x.toList == y.toList) = decide (x = y) := by
  rw [Bool.eq_iff_iff]
  simp only [beq_iff_eq, decide_eq_true_eq]
  constructor
  · intro h
    have h' : x.data.toList = y.data.toList := by rw [← ByteArray.toList_eq, ← ByteArray.toList_eq]; exact h
    cases x; cases y
    simpa using h'
  · rintro rfl; rfl
end
section
open Go.RowKit
def Uk (U : Nat → Prop) (key : Nat) : Nat → Prop := fun k => U k ∨ (key ≤ k ∧ k < key + 16)
theorem avU.mono {U U' : Nat → Prop} (h : ∀ k, U k → U' k) {x : AV} (hx : avU U x) : avU U' x := by cases x <;> first | exact h _ hx | trivial
theorem avsU.mono [NW] {U U' : Nat → Prop} (h : ∀ k, U k → U' k) {x : List AV} (hx : avsU U x) : avsU U' x := fun y m => (hx y m).mono h
theorem svU.mono [NW] {U U' : Nat → Prop} (h : ∀ k, U k → U' k) {x : SV} (hx : svU U x) : svU U' x := by
  cases x <;> first | exact avsU.mono h hx | exact fun y m => avsU.mono h (hx y m) | exact h _ hx | trivial
theorem obU.mono [NW] {U U' : Nat → Prop} (h : ∀ k, U k → U' k) {x : Ob} (hx : obU U x) : obU U' x := by
  cases x <;> first | exact avsU.mono h hx | trivial
def Fin [NW] (P : Program) (W : Base) (U : Nat → Prop) (key : Nat) (st : St) (g : Gh) (w : World) (s : Sem Next) (r : SV × List (Nat × Ob)) : Prop :=
  ∃ g' cv w', (s.run P w = .ok (.value cv) w' ∨ (s.run P w = .ok .skip w' ∧ cv = undef)) ∧ HI W g' (updAll st.ob r.2) w' ∧ SVR g' w' r.1 cv ∧ (∀ x v, svU U x → SVR g w x v → SVR g' w' x v) ∧
    svU (Uk U key) r.1 ∧ (∀ k, obU (Uk U key) (updAll st.ob r.2 k)) ∧ ∀ k, ¬ Uk U key k → updAll st.ob r.2 k = .gone
section
variable {P : Program} {W : Base} {U : Nat → Prop} {key : Nat} {st : St} {g : Gh} {w : World} {a : Act} {tt : Nat → Option TI}
theorem fin_pure [NW] {s : Sem Next} {v : SV} {cv : Value} (hI : HI W g st.ob w) (hU : StU U st) (hrun : s.run P w = .ok (.value cv) w) (hv : SVR g w v cv) (hu : svU U v) : Fin P W U key st g w s (v, []) :=
  ⟨g, cv, w, .inl hrun, hI, hv, fun _ _ _ h => h, hu.mono fun _ => .inl, fun k => (hU.ob k).mono fun _ => .inl, fun k hk => hU.gone k fun h => hk (.inl h)⟩
theorem svU_c (x : CT) : svU U (.p false [.c x]) := fun y m => by simp at m; subst m; trivial
theorem SVR_int [NW] (k : IntKind) (n : Int) : SVR g w (.p false [.c (.int k n)]) (.int k n) := ⟨_, rfl, [], ⟨rfl, rfl⟩, by simp⟩
theorem SVR_bool [NW] (b : Bool) : SVR g w (.p false [.c (.bool b)]) (.bool b) := ⟨_, rfl, [], ⟨rfl, rfl⟩, by simp⟩
theorem SVR_str [NW] {s : ByteArray} (h : s.size ≤ 9223372036854775807) : SVR g w (.p false [.c (.str s)]) (.string s) := ⟨_, rfl, [], ⟨rfl, rfl, h⟩, by simp⟩
theorem int_of [NW] {k : IntKind} {n : Int} {v : Value} (h : SVR g w (.p false [.c (.int k n)]) v) : v = .int k n := by
  obtain ⟨x, hx, h⟩ := h; simp at hx; subst hx; obtain ⟨L, h1, _⟩ := h; exact h1.1
theorem bool_of [NW] {b : Bool} {v : Value} (h : SVR g w (.p false [.c (.bool b)]) v) : v = .bool b := by
  obtain ⟨x, hx, h⟩ := h; simp at hx; subst hx; obtain ⟨L, h1, _⟩ := h; exact h1.1
theorem str_of [NW] {s : ByteArray} {v : Value} (h : SVR g w (.p false [.c (.str s)]) v) : v = .string s ∧ s.size ≤ 9223372036854775807 := by
  obtain ⟨x, hx, h⟩ := h; simp at hx; subst hx; obtain ⟨L, h1, _⟩ := h; exact ⟨h1.1, h1.2.2⟩
theorem cv_ok [NW] {t : Nat} (htt : ∀ t i, tt t = some i → TOk P t i) (v : Value) : SVR g w (cvT (tt t) v) v ∧ svU U (cvT (tt t) v) := by
  unfold cvT
  split
  · exact ⟨SVR_int _ _, svU_c _⟩
  · exact ⟨SVR_bool _, svU_c _⟩
  · split
    · rename_i h; exact ⟨SVR_str (strOk_le h), svU_c _⟩
    · exact ⟨trivial, trivial⟩
  · split
    · exact ⟨⟨_, rfl, rfl⟩, fun y m => by simp at m; subst m; trivial⟩
    · exact ⟨trivial, trivial⟩
  · exact ⟨trivial, trivial⟩
theorem ev_ok [NW] (htt : ∀ t i, tt t = some i → TOk P t i) (hS : ∀ t, SVR g w (st.sl t) (a.tmps.getD t undef)) (hU : StU U st) (t : Nat) (x : Operand) :
    SVR g w (st.ev tt t x) (a.eval x) ∧ svU U (st.ev tt t x) := by
  cases x with
  | tmp s => exact ⟨hS s, hU.sl s⟩
  | const v => exact cv_ok htt v
  | global _ => exact ⟨trivial, trivial⟩
  | func f => exact ⟨rfl, trivial⟩
set_option maxHeartbeats 1000000 in
theorem bin_int [NW] {op : BinOp} {t : Nat} {ox oy : Operand} {k k' : IntKind} {n n' : Int} {z : CT} (hk : k = k' ∨ op = .shl ∨ op = .shr) (hz : intV op k n n' = some z) :
    ∃ cv, (do eqGuard op t ox oy (.int k n) (.int k' n'); binOp op t (.int k n) (.int k' n') : Sem Value).run P w = .ok cv w ∧ SVR g w (.p false [.c z]) cv := by
  have hg : (eqGuard op t ox oy (.int k n) (.int k' n')).run P w = .ok () w := by
    cases op <;> rfl
  simp only [Sem.run_bind, hg, Result.andThen_ok]
  cases op <;> simp only [intV, bitV, andI, orI, xorI, andNotI, shlI, shrI, Option.map_none, Option.map_some, Option.some.injEq, reduceCtorEq] at hz <;> (try subst hz) <;>
    (try (split at hz <;> simp only [Option.some.injEq, reduceCtorEq] at hz; subst hz)) <;>
    simp only [reduceCtorEq, or_false, or_true] at hk <;> (try subst hk) <;>
    first
      | (refine ⟨_, ?_, SVR_int _ _⟩; simp [binOp, Op.intArith, Op.intDiv, Op.intBits, Op.shift, *]; done)
      | (refine ⟨_, ?_, SVR_bool _⟩; simp [binOp, Op.intCmp]; done)
set_option maxHeartbeats 1000000 in
theorem bin_str [NW] {op : BinOp} {t : Nat} {ox oy : Operand} {s s' : ByteArray} {z : CT} (hz : strV op s s' = some z) :
    ∃ cv, (do eqGuard op t ox oy (.string s) (.string s'); binOp op t (.string s) (.string s') : Sem Value).run P w = .ok cv w ∧ SVR g w (.p false [.c z]) cv := by
  have hg : (eqGuard op t ox oy (.string s) (.string s')).run P w = .ok () w := by
    cases op <;> rfl
  simp only [Sem.run_bind, hg, Result.andThen_ok]
  cases op <;> simp only [strV, Option.some.injEq, reduceCtorEq] at hz <;> (try subst hz) <;>
    first
      | (refine ⟨_, ?_, SVR_bool _⟩; simp only [binOp, Op.stringOp, sLt, sEq, ← ba_list]; rfl)
      | (split at hz
         · rename_i hl
           simp only [Option.some.injEq] at hz
           subst hz
           refine ⟨_, ?_, SVR_str (by rw [ByteArray.size_append]; exact hl)⟩
           have hl' : ¬ ((s.size + s'.size : Nat) : Int) > IntKind.i64.max := by
             have : IntKind.i64.max = 9223372036854775807 := by decide
             omega
           simp only [binOp, Op.stringOp, hl', if_false]
           rfl
         · simp at hz)
theorem bin_bool [NW] {op : BinOp} {t : Nat} {ox oy : Operand} {b b' : Bool} {r : Bool} (ht : P.underlying t = some .bool) (hop : (op = .eql ∧ r = (b == b')) ∨ (op = .neq ∧ r = !(b == b'))) :
    (do eqGuard op t ox oy (.bool b) (.bool b'); binOp op t (.bool b) (.bool b') : Sem Value).run P w = .ok (.bool r) w := by
  have hg : (eqGuard op t ox oy (.bool b) (.bool b')).run P w = .ok () w := by
    cases op <;> rfl
  have he : (Op.equal t (.bool b) (.bool b')).run P w = .ok (b == b') w := by
    have key : ∀ d : Nat, (Op.equalIn (d + 1) t (.bool b) (.bool b')).run P w = .ok (b == b') w := fun d => by
      rw [Op.equalIn]
      simp only [Sem.run_bind, run_und ht, Result.andThen_ok, Sem.run_pure]
    exact key 9999
  simp only [Sem.run_bind, hg, Result.andThen_ok]
  rcases hop with ⟨rfl, rfl⟩ | ⟨rfl, rfl⟩
  · simp only [binOp, Sem.run_bind, he, Result.andThen_ok, Sem.run_pure]
  · simp only [binOp, Sem.run_bind, he, Result.andThen_ok, Sem.run_pure]
theorem bin_ok [NW] (htt : ∀ t i, tt t = some i → TOk P t i) {op : BinOp} {t : Nat} {ox oy : Operand} {x y v : SV} {vx vy : Value} (h : binV (tt t) op x y = some v) (hx : SVR g w x vx) (hy : SVR g w y vy) :
    ∃ cv, (do eqGuard op t ox oy vx vy; binOp op t vx vy : Sem Value).run P w = .ok cv w ∧ SVR g w v cv ∧ svU U v := by
  unfold binV at h
  split at h
  · have ex := int_of hx
    have ey := int_of hy
    subst ex ey
    split at h
    · rename_i hk
      obtain ⟨z, hz, rfl⟩ := Option.map_eq_some_iff.1 h
      obtain ⟨cv, h1, h2⟩ := bin_int (P := P) (g := g) (w := w) (t := t) (ox := ox) (oy := oy) hk hz
      exact ⟨cv, h1, h2, svU_c _⟩
    · simp at h
  · obtain ⟨ex, lx⟩ := str_of hx
    obtain ⟨ey, ly⟩ := str_of hy
    subst ex ey
    obtain ⟨z, hz, rfl⟩ := Option.map_eq_some_iff.1 h
    obtain ⟨cv, h1, h2⟩ := bin_str (P := P) (g := g) (w := w) (t := t) (ox := ox) (oy := oy) hz
    exact ⟨cv, h1, h2, svU_c _⟩
  · have ex := bool_of hx
    have ey := bool_of hy
    subst ex ey
    split at h
    · rename_i hti
      simp only [Option.some.injEq] at h
      subst h
      obtain ⟨d, zv, i, h1, h2, _⟩ := htt t _ hti
      have hd : d = .bool := by cases d <;> simp [kindB] at h2; rfl
      subst hd
      exact ⟨_, bin_bool h1 (.inl ⟨rfl, rfl⟩), SVR_bool _, svU_c _⟩
    · rename_i hti
      simp only [Option.some.injEq] at h
      subst h
      obtain ⟨d, zv, i, h1, h2, _⟩ := htt t _ hti
      have hd : d = .bool := by cases d <;> simp [kindB] at h2; rfl
      subst hd
      exact ⟨_, bin_bool h1 (.inr ⟨rfl, rfl⟩), SVR_bool _, svU_c _⟩
    · simp at h
  · simp at h
theorem kindP_agg {k : PK} {d : TypeDesc} (h : kindP k d = true) : aggD d = false := by
  unfold kindP at h
  split at h <;> first | rfl | simp at h
theorem eqC_ok [NW] {k : PK} {x y : AV} {vx vy : Value} {b : Bool} {t : Nat} {d : TypeDesc} (h : eqC k x y = some b) (hd : P.underlying t = some d) (hk : kindP k d = true) (hx : AVR g w x vx) (hy : AVR g w y vy) (n : Nat) : (Op.equalIn (n + 1) t vx vy).run P w = .ok b w := by
  unfold eqC at h
  split at h
  · split at h <;> simp only [Option.some.injEq, reduceCtorEq] at h
    rename_i kk; subst kk h
    obtain ⟨_, h1, _⟩ := hx; obtain ⟨_, h2, _⟩ := hy
    have e1 := h1.1; have e2 := h2.1; subst e1 e2
    cases d <;> simp [kindP] at hk
    exact run_equalIn_int w n t _ _ _ _ hd
  · simp only [Option.some.injEq] at h; subst h
    obtain ⟨_, h1, _⟩ := hx; obtain ⟨_, h2, _⟩ := hy
    have e1 := h1.1; have e2 := h2.1; subst e1 e2
    cases d <;> simp [kindP] at hk
    rw [run_equalIn_string w n t _ _ hd, sEq, ba_list]
  · simp only [Option.some.injEq] at h; subst h
    obtain ⟨_, h1, _⟩ := hx; obtain ⟨_, h2, _⟩ := hy
    have e1 := h1.1; have e2 := h2.1; subst e1 e2
    cases d <;> simp [kindP] at hk
    exact run_equalIn_bool' w n t _ _ hd
  · simp at h
theorem eqCs_ok [NW] (n : Nat) {X Y : Array Value} : ∀ {ks : List PK} {fs : List Field} {o : Nat} {xs ys : List AV} {vx vy : List Value} {b : Bool}, eqCs ks xs ys = some b → EqF P ks fs o → All2 (AVR g w) xs vx → All2 (AVR g w) ys vy → (∀ j v, vx[j]? = some v → X[o + j]? = some v) → (∀ j v, vy[j]? = some v → Y[o + j]? = some v) → (Op.eqFields (n + 1) X Y fs).run P w = .ok b w
  | [], [], _, [], [], _, _, b, h, _, _, _, _, _ => by simp [eqCs] at h; subst h; simp [Op.eqFields]
  | k :: ks, f :: fs, o, x :: xs, y :: ys, [], _, _, _, _, hx, _, _, _ => hx.elim
  | k :: ks, f :: fs, o, x :: xs, y :: ys, _ :: _, [], _, _, _, _, hy, _, _ => hy.elim
  | k :: ks, f :: fs, o, x :: xs, y :: ys, u :: vx, v :: vy, b, h, hf, hx, hy, hX, hY => by
    simp only [eqCs] at h
    obtain ⟨b1, h1, h⟩ := Option.bind_eq_some_iff.1 h
    obtain ⟨b2, h2, rfl⟩ := Option.map_eq_some_iff.1 h
    obtain ⟨f1, f2, ⟨d, f3, f4⟩, f5⟩ := hf
    have e1 := eqC_ok h1 f3 f4 hx.1 hy.1 n
    have e2 := eqCs_ok n h2 f5 hx.2 hy.2 (fun j v hj => by have := hX (j + 1) v (by simpa using hj); rwa [show o + (j + 1) = o + 1 + j by omega] at this) (fun j v hj => by have := hY (j + 1) v (by simpa using hj); rwa [show o + (j + 1) = o + 1 + j by omega] at this)
    have p1 : (part f.type X f.offset).run P w = .ok u w := by
      have := hX 0 u (by simp)
      simp only [part, Sem.run_bind, run_agg f3, kindP_agg f4, Result.andThen_ok]
      rw [f2]; simp at this; simp [this]
    have p2 : (part f.type Y f.offset).run P w = .ok v w := by
      have := hY 0 v (by simp)
      simp only [part, Sem.run_bind, run_agg f3, kindP_agg f4, Result.andThen_ok]
      rw [f2]; simp at this; simp [this]
    simp only [Op.eqFields, f1, ne_eq, not_false_eq_true, if_true, Sem.run_bind, p1, p2, e1, Result.andThen_ok]
    cases b1
    · simp
    · simpa using e2
  | [], _ :: _, _, _, _, _, _, _, _, hf, _, _, _, _ => hf.elim
  | _ :: _, [], _, _, _, _, _, _, _, hf, _, _, _, _ => hf.elim
  | [], [], _, _ :: _, _, _, _, _, h, _, _, _, _, _ => by simp [eqCs] at h
  | [], [], _, [], _ :: _, _, _, _, h, _, _, _, _, _ => by simp [eqCs] at h
  | _ :: _, _ :: _, _, [], _, _, _, _, h, _, _, _, _, _ => by simp [eqCs] at h
  | _ :: _, _ :: _, _, _ :: _, [], _, _, _, h, _, _, _, _, _ => by simp [eqCs] at h
theorem eqRes_ok {op : BinOp} {b : Bool} {v : SV} (h : eqRes op b = some v) : (op = .eql ∧ v = .p false [.c (.bool b)]) ∨ (op = .neq ∧ v = .p false [.c (.bool (!b))]) := by
  unfold eqRes at h
  split at h <;> simp only [Option.some.injEq, reduceCtorEq] at h <;> subst h
  · exact .inl ⟨rfl, rfl⟩
  · exact .inr ⟨rfl, rfl⟩
theorem agg_ok [NW] (htt : ∀ t i, tt t = some i → TOk P t i) {op : BinOp} {t : Nat} {ox oy : Operand} {x y v : SV} {vx vy : Value} (h : aggV (tt (t + 4000)) op x y = some v) (hx : SVR g w x vx) (hy : SVR g w y vy) :
    ∃ cv, (do eqGuard op t ox oy vx vy; binOp op t vx vy : Sem Value).run P w = .ok cv w ∧ SVR g w v cv ∧ svU U v := by
  unfold aggV at h
  split at h
  · obtain ⟨ks, hks, h'⟩ := Option.bind_eq_some_iff.1 h
    obtain ⟨b, hb, h''⟩ := Option.bind_eq_some_iff.1 h'
    have hti : tt (t + 4000) = some (.eqs ks) := by
      unfold eqsTI at hks
      split at hks <;> simp only [Option.some.injEq, reduceCtorEq] at hks
      rename_i hti
      rw [hti, hks]
    obtain ⟨u, e, h1, h2, h3, h4⟩ := htt _ _ hti
    have e : t = u := Nat.add_right_cancel e
    subst e
    obtain ⟨us, rfl, hus⟩ := hx
    obtain ⟨vs, rfl, hvs⟩ := hy
    have hq := eqCs_ok (X := us.toArray) (Y := vs.toArray) 9998 hb h4 hus hvs (fun j v hj => by simpa using hj) (fun j v hj => by simpa using hj)
    have hg := run_eqGuard_agg (P := P) w op t ox oy us.toArray vs.toArray h3
    rcases eqRes_ok h'' with ⟨rfl, rfl⟩ | ⟨rfl, rfl⟩
    · refine ⟨_, ?_, SVR_bool b, svU_c _⟩
      simp only [Sem.run_bind, hg, Result.andThen_ok, run_eql_struct, run_equalIn_struct w 9999 t _ _ h1 h2, hq]
    · refine ⟨_, ?_, SVR_bool (!b), svU_c _⟩
      simp only [Sem.run_bind, hg, Result.andThen_ok, run_neq_struct, run_equalIn_struct w 9999 t _ _ h1 h2, hq]
  · simp at h
theorem ifc_of [NW] {b : Bool} {v : Value} (h : SVR g w (.p false [.c (.ifc b)]) v) : (b = true ∧ v = .nilIface) ∨ (b = false ∧ ∃ t x, v = .iface t x) := by
  obtain ⟨x, hx, h⟩ := h; simp at hx; subst hx; obtain ⟨L, h1, _⟩ := h
  have h2 := h1.2.2
  cases b with
  | true => exact .inl ⟨rfl, h2⟩
  | false => exact .inr ⟨rfl, h2⟩
theorem bino_ok [NW] (htt : ∀ t i, tt t = some i → TOk P t i) {op : BinOp} {t : Nat} {ox oy : Operand} {x y v : SV} {vx : Value} (h : binO tt t (isNilC oy) op x y = some v) (hx : SVR g w x vx) (hy : SVR g w y (a.eval oy)) :
    ∃ cv, (do eqGuard op t ox oy vx (a.eval oy); binOp op t vx (a.eval oy) : Sem Value).run P w = .ok cv w ∧ SVR g w v cv ∧ svU U v := by
  unfold binO at h
  split at h
  · rename_i hn
    have ho : oy = .const .nilIface := by
      cases oy with
      | const c => cases c <;> first | rfl | (simp [isNilC, isNilV] at hn; done)
      | _ => simp [isNilC] at hn
    subst ho
    split at h
    rotate_left
    · simp at h
    rename_i hif
    have hti : tt t = some .ifc := by
      unfold isIfc at hif
      split at hif
      · assumption
      · simp at hif
    obtain ⟨ms, hms⟩ := htt _ _ hti
    unfold nilV at h
    split at h
    · rename_i b
      have hb := ifc_of hx
      have hev : a.eval (.const .nilIface) = .nilIface := rfl
      rw [hev]
      have hg : ∀ v : Value, (v = .nilIface ∨ ∃ t x, v = .iface t x) → (eqGuard op t ox (.const .nilIface) v .nilIface).run P w = .ok () w := fun v hv => by
        rcases hv with rfl | ⟨t', x', rfl⟩
        · simp only [eqGuard]
          cases ox <;> cases op <;> rfl
        · simp only [eqGuard]
          cases op <;> rfl
      have he : (Op.equal t vx .nilIface).run P w = .ok b w := by
        show (Op.equalIn (9999 + 1) t _ _).run P w = _
        rw [Op.equalIn]
        rcases hb with ⟨rfl, rfl⟩ | ⟨rfl, t', x', rfl⟩
        · simp only [Sem.run_bind, run_und hms, Result.andThen_ok, Sem.run_pure]
        · simp only [Sem.run_bind, run_und hms, Result.andThen_ok, Sem.run_pure]
      have hg' := hg vx (hb.imp (fun h => h.2) (fun h => h.2))
      rcases eqRes_ok h with ⟨rfl, rfl⟩ | ⟨rfl, rfl⟩
      · refine ⟨_, ?_, SVR_bool b, svU_c _⟩
        simp only [Sem.run_bind, hg', Result.andThen_ok]
        rcases hb with ⟨rfl, rfl⟩ | ⟨rfl, t', x', rfl⟩ <;> simp only [binOp, Sem.run_bind, he, Result.andThen_ok, Sem.run_pure]
      · refine ⟨_, ?_, SVR_bool (!b), svU_c _⟩
        simp only [Sem.run_bind, hg', Result.andThen_ok]
        rcases hb with ⟨rfl, rfl⟩ | ⟨rfl, t', x', rfl⟩ <;> simp only [binOp, Sem.run_bind, he, Result.andThen_ok, Sem.run_pure]
    · simp at h
  · split at h
    · exact agg_ok htt h hx hy
    · exact bin_ok htt h hx hy
theorem un_ok [NW] {op : UnOp} {x v : SV} {vx : Value} (h : unV op x = some v) (hx : SVR g w x vx) : ∃ cv, (Op.unary op vx).run P w = .ok cv w ∧ SVR g w v cv ∧ svU U v := by
  unfold unV at h
  split at h
  · have ex := bool_of hx
    subst ex
    split at h <;> simp at h
    subst h
    exact ⟨_, by simp [Op.unary], SVR_bool _, svU_c _⟩
  · have ex := int_of hx
    subst ex
    split at h <;> simp at h
    subst h
    exact ⟨_, by simp [Op.unary, Op.intArith], SVR_int _ _, svU_c _⟩
  · simp at h
end
end
section
open Go.RowKit
section
variable {P : Program} {W : Base} {U : Nat → Prop} {key : Nat} {st : St} {g : Gh} {w : World} {a : Act} {tt : Nat → Option TI}
theorem tt_und {t : Nat} {z : AV} (htt : ∀ t i, tt t = some i → TOk P t i) (h : tt t = some (.atom z)) : ∃ d, P.underlying t = some d := by
  obtain ⟨d, _, _, h, _⟩ := htt t _ h; exact ⟨d, h⟩
theorem isSlice_und {t : Nat} (htt : ∀ t i, tt t = some i → TOk P t i) (h : isSlice (tt t) = true) : ∃ e, P.underlying t = some (.slice e) := by
  unfold isSlice at h
  split at h
  · rename_i h1; exact ⟨_, (htt t _ h1).1⟩
  · simp at h
theorem isStr_und {t : Nat} (htt : ∀ t i, tt t = some i → TOk P t i) (h : isStr (tt t) = true) : P.underlying t = some .string := by
  unfold isStr at h
  split at h
  · rename_i h1
    obtain ⟨d, zv, i, h2, h3, _⟩ := htt t _ h1
    have hd : d = .string := by cases d <;> simp [kindB] at h3; rfl
    rw [hd] at h2; exact h2
  · simp at h
theorem conv_ok [NW] (htt : ∀ t i, tt t = some i → TOk P t i) {s t : Nat} {x v : SV} {vx : Value} (h : convV (tt s) (tt t) x = some v) (hx : SVR g w x vx) : ∃ cv, (convert s t vx).run P w = .ok cv w ∧ SVR g w v cv ∧ svU U v := by
  unfold convV at h
  split at h
  · have ex := int_of hx
    subst ex
    split at h
    · rename_i h1 h2
      simp only [Option.some.injEq] at h
      subst h
      obtain ⟨d, zv, i, h3, h4, _⟩ := htt t _ h2
      have hd : ∃ k, d = .int k := by cases d <;> simp [kindB] at h4; exact ⟨_, rfl⟩
      obtain ⟨k, rfl⟩ := hd
      simp only [kindB, beq_iff_eq] at h4
      subst h4
      obtain ⟨ds, hs⟩ := tt_und htt h1
      refine ⟨_, ?_, SVR_int _ _, svU_c _⟩
      simp [convert, run_und hs, run_und h3, Conv.intToInt]
    · simp at h
  · simp at h
theorem slice_of [NW] {e m : Nat} {xs : List (List CT)} {v : Value} (h : SVR g w (.p false [.c (.sl e m xs)]) v) : ∃ A cap cs L0 L1, v = .slice A xs.length cap ∧ xs.length ≤ cap ∧ cap ≤ maxLen ∧ 0 < m ∧ Sl w m A xs.length cs L0 ∧ REs w m xs cs L1 ∧ (∀ b ∈ L0 ++ L1, ¬ g.own b) := by
  obtain ⟨x, hx, h⟩ := h
  simp at hx
  subst hx
  obtain ⟨L, ⟨A, cap, cs, L0, L1, h1, h2, h3, h4, h5, h6, h7⟩, ho⟩ := h
  exact ⟨A, cap, cs, L0, L1, h1, h2, h3, h5, h6, h7, fun b m => ho b (h4 ▸ m)⟩
theorem row_of [NW] {k : Nat} {v : Value} (h : SVR g w (.p false [.row k]) v) : v = g.val k := by
  obtain ⟨x, hx, h⟩ := h; simp at hx; subst hx; exact h.1
theorem nil_of [NW] {e m : Nat} {v : Value} (h : SVR g w (.p false [.nil e m]) v) : v = .slice none 0 0 := by
  obtain ⟨x, hx, h⟩ := h; simp at hx; subst hx; exact h
theorem own_val {B e m n : Nat} {v : Value} {cs : List Value} (h : w.ownsV B e m v n cs) : ∃ A cap, v = .slice A n cap := by
  obtain ⟨A, c, hv, _⟩ := ownV_slice h
  exact ⟨A, c, hv⟩
theorem un_N [NW] {x : CT} {v : Value} (h : SVR g w (.p false [.n x]) v) : NR g w x v := by
  obtain ⟨y, hy, h⟩ := h; simp at hy; subst hy; exact h
theorem len_ok [NW] (htt : ∀ t i, tt t = some i → TOk P t i) (hI : HI W g st.ob w) {t : Nat} {ts : Array TypeId} {ty : TypeId} (hts : ts[0]? = some t) {x v : SV} {vx : Value} (h : lenV st (tt t) x = some v) (hx : SVR g w x vx) :
    ∃ cv, (Builtin.len_ ts ty #[vx]).run P w = .ok cv w ∧ SVR g w v cv ∧ svU U v := by
  have fin : ∀ (A : Option Addr) (n c : Nat), isSlice (tt t) = true → (Builtin.len_ ts ty #[.slice A n c]).run P w = .ok (.int .i64 n) w := fun A n c hs => by
    obtain ⟨e, he⟩ := isSlice_und htt hs
    simp [Builtin.len_, hts, run_und he, goInt]
  unfold lenV at h
  split at h
  · split at h <;> simp at h
    rename_i hs
    subst h
    obtain ⟨A, cap, _, _, _, rfl, _⟩ := slice_of hx
    exact ⟨_, fin _ _ _ hs, SVR_int _ _, svU_c _⟩
  · split at h <;> simp at h
    rename_i hs
    subst h
    obtain ⟨_, _, _, _, _, h1, _, h3, _⟩ := un_N hx
    simp only [CT.sl.injEq] at h1
    obtain ⟨_, _, rfl⟩ := h1
    obtain ⟨A, cap, rfl⟩ := own_val h3
    exact ⟨_, fin _ _ _ hs, SVR_int _ _, svU_c _⟩
  · split at h <;> simp at h
    rename_i hs
    subst h
    obtain ⟨rfl, _⟩ := str_of hx
    refine ⟨_, ?_, SVR_int _ _, svU_c _⟩
    simp [Builtin.len_, hts, run_und (isStr_und htt hs), goInt]
  · split at h <;> simp at h
    rename_i hs
    subst h
    have := nil_of hx
    subst this
    exact ⟨_, fin _ _ _ hs, SVR_int _ _, svU_c _⟩
  · split at h
    · rename_i k _ e m xs d hk
      split at h <;> simp at h
      rename_i hs
      subst h
      have hv := row_of hx
      subst hv
      have ho := hI.obs k
      rw [hk] at ho
      obtain ⟨_, cs, L, h1, _⟩ := ho
      obtain ⟨A, cap, hv⟩ := own_val h1
      rw [hv]
      exact ⟨_, fin _ _ _ hs, SVR_int _ _, svU_c _⟩
    · simp at h
  · simp at h
theorem fold_bytes {f : Value → ByteArray → Sem (ForInStep ByteArray)} (hf : ∀ n s, f (.int .u8 n) s = pure (ForInStep.yield (s.push (UInt8.ofNat n.toNat)))) : ∀ (l : List Int) (s : ByteArray), (forIn (l.map fun n => Value.int .u8 n) s f).run P w = .ok ⟨s.data ++ (l.map fun n => UInt8.ofNat n.toNat).toArray⟩ w
  | [], s => by simp
  | n :: l, s => by
    have ih := fold_bytes hf l (s.push (UInt8.ofNat n.toNat))
    simp only [List.map_cons, List.forIn_cons, hf, Sem.run_bind, Sem.run_pure, Result.andThen_ok, ih]
    congr 2
    apply Array.ext'
    simp [ByteArray.push]
theorem run_bytes [NW] {b o cap : Nat} (l : List Int) (hc : ∀ j u, (l.map fun n => Value.int .u8 n)[j]? = some u → w.cell? ⟨b, o + j, none⟩ = some u) : (Conv.bytesToString (.slice (some ⟨b, o, none⟩) l.length cap)).run P w = .ok (.string (bytesS l)) w := by
  have h1 := run_loadCells_list (P := P) w ⟨b, o, none⟩ (l.map fun n => Value.int .u8 n) (fun j u hj => by rw [add_lit0]; exact hc j u hj)
  rw [List.length_map] at h1
  unfold Conv.bytesToString
  simp only [Sem.run_bind, h1, Result.andThen_ok, ← Array.forIn_toList]
  rw [fold_bytes (fun _ _ => rfl)]
  simp [bytesS, ByteArray.empty, ByteArray.emptyWithCapacity]
  rfl
theorem ints_cells {m : Nat} : ∀ {xs : List (List CT)} {l : List Int} {cs : List Value} {L : List Nat}, intsOf xs = some l → REs w m xs cs L → cs = l.map (fun n => Value.int .u8 n) ∧ xs.length = l.length
  | [], _, _, _, h, ⟨h1, _⟩ => by simp [intsOf] at h; subst h h1; simp
  | x :: r, l, _, _, h, ⟨c1, c2, L1, L2, rfl, rfl, h3, h4⟩ => by
    unfold intsOf at h
    split at h
    · rename_i he; simp at he
    · rename_i n r' he
      simp only [List.cons.injEq] at he
      obtain ⟨rfl, rfl⟩ := he
      obtain ⟨l', hl, rfl⟩ := Option.map_eq_some_iff.1 h
      obtain ⟨i1, i2⟩ := ints_cells hl h4
      obtain ⟨v, cs', _, _, rfl, rfl, a1, a2⟩ := h3.1
      obtain ⟨rfl, _⟩ := a2
      rw [a1.1, i1]
      exact ⟨rfl, by simp [i2]⟩
    · simp at h
theorem bytesS_size (l : List Int) : (bytesS l).size = l.length := by simp [bytesS, ByteArray.size]
theorem strOf_ok [NW] (htt : ∀ t i, tt t = some i → TOk P t i) (hI : HI W g st.ob w) {s t : Nat} {x v : SV} {vx : Value} (hst : isStr (tt t) = true) (hby : byteTI (elemTI tt (tt s)) = true) (h : strOf st x = some v) (hx : SVR g w x vx) : ∃ cv, (convert s t vx).run P w = .ok cv w ∧ SVR g w v cv ∧ svU U v := by
  have ht := isStr_und htt hst
  have hs : ∃ e, P.underlying s = some (.slice e) ∧ P.underlying e = some (.int .u8) := by
    unfold elemTI at hby
    split at hby
    · rename_i e m b z hti
      have h1 := (htt _ _ hti).1
      unfold byteTI at hby
      split at hby
      · rename_i hte
        obtain ⟨d, zv, i, h2, h3, _⟩ := htt _ _ hte
        cases d <;> simp [kindB] at h3
        subst h3
        exact ⟨e, h1, h2⟩
      · simp at hby
    · simp [byteTI] at hby
  obtain ⟨e, hs, he⟩ := hs
  have go : ∀ A n c, (convert s t (.slice A n c)).run P w = (Conv.bytesToString (.slice A n c)).run P w := fun A n c => by
    unfold convert
    simp only [Sem.run_bind, run_und hs, run_und ht, run_und he, Result.andThen_ok]
  have fin : ∀ (A : Option Addr) (n cap : Nat) (cs : List Value) (L : List Nat) (xs : List (List CT)) (l : List Int) (m : Nat), n = xs.length → 0 < m → intsOf xs = some l → REs w m xs cs L → n ≤ 9223372036854775807 → (n = 0 ∨ ∃ b o, A = some ⟨b, o, none⟩ ∧ CellsAt w b o cs) → ∃ cv, (convert s t (.slice A n cap)).run P w = .ok cv w ∧ SVR g w (.p false [.c (.str (bytesS l))]) cv ∧ svU U (.p false [.c (.str (bytesS l))]) := by
    intro A n cap cs L xs l m hn hm hl hR hsz hA
    obtain ⟨i1, i2⟩ := ints_cells hl hR
    have hsz' : (bytesS l).size ≤ 9223372036854775807 := by rw [bytesS_size]; omega
    refine ⟨.string (bytesS l), ?_, SVR_str hsz', svU_c _⟩
    rw [go]
    rcases hA with h0 | ⟨b, o, rfl, hc⟩
    · have : l = [] := List.eq_nil_of_length_eq_zero (by omega)
      subst this
      cases A with
      | none => rfl
      | some a =>
        have h1 := run_loadCells_list (P := P) w a [] (by simp)
        rw [h0]
        unfold Conv.bytesToString
        simp only [List.length_nil] at h1
        simp only [Sem.run_bind, h1, Result.andThen_ok]
        rfl
    · rw [hn, i2]
      exact run_bytes l fun j u hj => hc j u (by rw [i1]; exact hj)
  unfold strOf at h
  split at h
  · split at h
    · rename_i k _ e' m xs d hk
      obtain ⟨l, hl, rfl⟩ := Option.map_eq_some_iff.1 h
      have hv := row_of hx
      have ho := hI.obs k
      rw [hk] at ho
      obtain ⟨hm, cs, L, h1, h2, _⟩ := ho
      rw [hv]
      rcases h1.2 with ⟨h3, h4⟩ | ⟨b, o, cap, cur, h3, h4, h5, h6, h7, h8, h9⟩
      · rw [h3]
        exact fin _ _ _ cs L xs l m (by omega) hm hl h2 (by omega) (.inl rfl)
      · rw [h3]
        refine fin _ _ _ cs L xs l m rfl hm hl h2 (by unfold maxLen at h7; omega) (.inr ⟨b, o, rfl, fun j u hj => ?_⟩)
        exact ownsV_at h1 h3 j u hj
    · simp at h
  · obtain ⟨l, hl, rfl⟩ := Option.map_eq_some_iff.1 h
    obtain ⟨A, cap, cs, L0, L1, rfl, h2, h3, h5, h6, h7, _⟩ := slice_of hx
    rename_i e' m' xs _
    refine fin _ _ _ cs L1 xs l _ rfl h5 hl h7 (by unfold maxLen at h3; omega) ?_
    rcases Nat.eq_zero_or_pos xs.length with h0 | h0
    · exact .inl h0
    · obtain ⟨b, off, h8, h9, hc⟩ := h6.at_ h0
      exact .inr ⟨b, off, h8, hc⟩
  · simp at h
theorem convO_ok [NW] (htt : ∀ t i, tt t = some i → TOk P t i) (hI : HI W g st.ob w) {s t : Nat} {x v : SV} {vx : Value} (h : convO tt st s t x = some v) (hx : SVR g w x vx) : ∃ cv, (convert s t vx).run P w = .ok cv w ∧ SVR g w v cv ∧ svU U v := by
  unfold convO at h
  split at h
  · rename_i hc
    simp only [Bool.and_eq_true] at hc
    exact strOf_ok htt hI hc.1 hc.2 h hx
  · exact conv_ok htt h hx
theorem RCs.avr [NW] {e : List CT} {cs : List Value} {L : List Nat} : RCs w e cs L → (∀ b ∈ L, ¬ g.own b) → All2 (AVR g w) (e.map .c) cs := by
  induction e generalizing cs L with
  | nil => intro h _; obtain ⟨rfl, rfl⟩ := h; trivial
  | cons x r ih =>
    rintro ⟨v, cs', L1, L2, rfl, rfl, h1, h2⟩ ho
    exact ⟨⟨L1, h1, fun b m => ho b (by simp [m])⟩, ih h2 fun b m => ho b (by simp [m])⟩
theorem svU_cs (a : Bool) (e : List CT) : avsU U (e.map AV.c) := fun y m => by
  obtain ⟨x, _, rfl⟩ := List.mem_map.1 m; trivial
/-- cells that lie from (b, lo) on, cut as a value of a type -/
theorem cut_ok [NW] (htt : ∀ t i, tt t = some i → TOk P t i) {t b lo off : Nat} {cs : List AV} {vs : List Value} {v : SV} (h : cut (tt t) cs off = some v) (hc : CellsAt w b lo vs) (hr : All2 (AVR g w) cs vs) (hu : avsU U cs) :
    ∃ cv, (Instr.loadAt t (.pointer (some ⟨b, lo + off, none⟩))).run P w = .ok cv w ∧ SVR g w v cv ∧ svU U v := by
  have hlen := hr.len
  have one : ∀ d, P.underlying t = some d → aggD d = false → ∀ x, cs[off]? = some x → ∃ cv, (Instr.loadAt t (.pointer (some ⟨b, lo + off, none⟩))).run P w = .ok cv w ∧ SVR g w (.p false [x]) cv ∧ svU U (.p false [x]) := fun d hd ha x hx => by
    obtain ⟨u, h1, h2⟩ := hr.at hx
    refine ⟨u, ?_, ⟨x, rfl, h2⟩, fun y m => by simp at m; subst m; exact hu y (List.mem_of_getElem? hx)⟩
    simp [Instr.loadAt, Instr.sureAddr, loadVar, run_agg hd, ha, load, Sem.run, hc off u h1]
  unfold cut at h
  split at h
  · rename_i fs n z hti
    split at h <;> simp at h
    rename_i hn
    subst h
    obtain ⟨fields, i, zvs, h1, h2, h3, _⟩ := htt t _ hti
    refine ⟨.agg ((vs.drop off).take n).toArray, ?_, ⟨_, rfl, (hr.drop off).take n⟩, fun y m => hu y (List.mem_of_mem_drop (List.mem_of_mem_take m))⟩
    have hl : ((vs.drop off).take n).length = i.size := by simp; omega
    have hload := run_loadCells_list (P := P) w ⟨b, lo + off, none⟩ ((vs.drop off).take n) (fun j u hj => by
      rw [add_lit0, Nat.add_assoc]
      refine hc _ u ?_
      have hjn : j < n := by
        have := (List.getElem?_eq_some_iff.1 hj).1
        simp at this; omega
      rw [List.getElem?_take, if_pos hjn, List.getElem?_drop] at hj
      exact hj)
    rw [hl] at hload
    simp [Instr.loadAt, Instr.sureAddr, loadVar, run_agg h1, aggD, run_size h2, hload]
  · simp at h
  · rename_i i hti hne hns
    obtain ⟨x, hx, rfl⟩ := Option.map_eq_some_iff.1 h
    cases i with
    | atom z => obtain ⟨d, zv, i, h1, h2, _⟩ := htt t _ hns; exact one d h1 (kind_agg h2) x hx
    | strct fs n z => exact absurd rfl (hti _ _ _)
    | slice e m b z => exact one _ (htt t _ hns).1 rfl x hx
    | map kk vk =>
      obtain ⟨kt, et, _, _, _, _, h1, _⟩ := htt t _ hns
      exact one _ h1 rfl x hx
    | ifc => obtain ⟨ms, h1⟩ := htt t _ hns; exact one _ h1 rfl x hx
    | eqs ks => exact absurd rfl (hne _)
  · simp at h
end
end
section
open Go.RowKit
section
variable {P : Program} {W : Base} {U : Nat → Prop} {key : Nat} {st : St} {g : Gh} {w : World} {a : Act} {tt : Nat → Option TI}
/-- what a live row's elements lead to is no block that is written to -/
theorem HI.deep [NW] {ob : Nat → Ob} {k e m : Nat} {xs : List (List CT)} {d : Nat} (hI : HI W g ob w) (hk : ob k = .row e m xs d) : 0 < m ∧ ∃ cs L, w.ownsV 0 e m (g.val k) xs.length cs ∧ REs w m xs cs L ∧ (∀ b ∈ L, ¬ g.own b) ∧ ((d = 2 ∧ g.O k = (g.val k).ownBlock.toList ∧ g.D k = L) ∨ (d = 1 ∧ g.O k = (g.val k).ownBlock.toList ∧ g.D k = []) ∨ (d = 0 ∧ g.O k = [] ∧ g.D k = [] ∧ ∀ b ∈ (g.val k).ownBlock.toList, ¬ g.own b)) := by
  have ho := hI.obs k
  rw [hk] at ho
  obtain ⟨hm, cs, L, h1, h2, h4⟩ := ho
  refine ⟨hm, cs, L, h1, h2, ?_, ?_⟩
  · rcases h4 with ⟨_, _, h4⟩ | ⟨_, _, _, h4⟩ | ⟨_, _, _, h4⟩
    · rintro b mb (⟨j, mj⟩ | hz)
      · by_cases hjk : j = k
        · subst hjk
          have := hI.nodup j
          rw [List.nodup_append] at this
          exact this.2.2 b mj b (h4 ▸ mb) rfl
        · exact hI.apart j k hjk b (by simp [mj]) (by simp [h4, mb])
      · exact hI.nz (k := k) (by simp [h4, mb]) hz
    · exact h4
    · exact fun b mb => h4 b (by simp [mb])
  · rcases h4 with h4 | ⟨q1, q2, q3, _⟩ | ⟨q1, q2, q3, q4⟩
    · exact .inl h4
    · exact .inr (.inl ⟨q1, q2, q3⟩)
    · exact .inr (.inr ⟨q1, q2, q3, fun b mb => q4 b (by simp [mb])⟩)
/-- of a row that is the call's own: the block that it writes to -/
theorem HI.deepO [NW] {ob : Nat → Ob} {k e m : Nat} {xs : List (List CT)} {d : Nat} (hI : HI W g ob w) (hk : ob k = .row e m xs d) (hd : ¬ d = 0) : 0 < m ∧ ∃ cs L, w.ownsV 0 e m (g.val k) xs.length cs ∧ REs w m xs cs L ∧ (∀ b ∈ L, ¬ g.own b) ∧ g.O k = (g.val k).ownBlock.toList ∧ ((d = 2 ∧ g.D k = L) ∨ (d = 1 ∧ g.D k = [])) := by
  obtain ⟨hm, cs, L, h1, h2, h3, h4⟩ := hI.deep hk
  refine ⟨hm, cs, L, h1, h2, h3, ?_⟩
  rcases h4 with ⟨q1, q2, q3⟩ | ⟨q1, q2, q3⟩ | ⟨q1, _⟩
  · exact ⟨q2, .inl ⟨q1, q3⟩⟩
  · exact ⟨q2, .inr ⟨q1, q3⟩⟩
  · exact absurd q1 hd
theorem REs.at {m : Nat} : ∀ {xs : List (List CT)} {cs : List Value} {L : List Nat} {i : Nat} {e : List CT}, REs w m xs cs L → xs[i]? = some e →
    ∃ c L', RCs w e c L' ∧ c.length = m ∧ (∀ b ∈ L', b ∈ L) ∧ ∀ j u, c[j]? = some u → cs[i * m + j]? = some u
  | [], _, _, _, _, _, h => by simp at h
  | x :: r, _, _, 0, e, ⟨c1, c2, L1, L2, rfl, rfl, h3, h4⟩, h => by
    simp at h; subst h
    exact ⟨c1, L1, h3.1, h3.2, fun b mb => by simp [mb], fun j u hu => by
      rw [Nat.zero_mul, Nat.zero_add, List.getElem?_append_left (List.getElem?_eq_some_iff.1 hu).1]; exact hu⟩
  | x :: r, _, _, i + 1, e, ⟨c1, c2, L1, L2, rfl, rfl, h3, h4⟩, h => by
    obtain ⟨c, L', a1, a2, a3, a4⟩ := REs.at h4 (i := i) (e := e) (by simpa using h)
    refine ⟨c, L', a1, a2, fun b mb => by simp [a3 b mb], fun j u hu => ?_⟩
    have hl := h3.2
    rw [List.getElem?_append_right (by rw [Nat.add_mul]; omega)]
    rw [← a4 j u hu]
    congr 1
    rw [hl, Nat.add_mul]; omega
theorem REs.len {m : Nat} : ∀ {xs : List (List CT)} {cs : List Value} {L : List Nat}, REs w m xs cs L → cs.length = xs.length * m
  | [], _, _, h => by simp [h.1]
  | x :: r, _, _, ⟨c1, c2, L1, L2, rfl, rfl, h3, h4⟩ => by simp [h3.2, REs.len h4, Nat.add_mul]; omega
theorem idx_ok [NW] (htt : ∀ t i, tt t = some i → TOk P t i) (hI : HI W g st.ob w) (hU : StU U st) {t e m bytes : Nat} {z : List AV} (hti : tt t = some (.slice e m bytes z)) {x i v : SV} {vx vi : Value} (h : idxAddr st m x i = some v) (hx : SVR g w x vx) (hxu : svU U x) (hi : SVR g w i vi) :
    ∃ cv, (Instr.indexAt t vx vi).run P w = .ok cv w ∧ SVR g w v cv ∧ svU U v := by
  obtain ⟨hu, hm, _, ⟨ie, zv, hie, hsz, _⟩, _⟩ := htt t _ hti
  have run : ∀ (b o n c : Nat) (k : IntKind) (q : Int), 0 ≤ q → q < n → (Instr.indexAt t (.slice (some ⟨b, o, none⟩) n c) (.int k q)).run P w = .ok (.pointer (some ⟨b, o + q.toNat * m, none⟩)) w := fun b o n c k q h0 h1 => by
    simp [Instr.indexAt, asIntOf, run_und hu, h0, h1, run_size hie, hsz, add_lit0]
  unfold idxAddr at h
  split at h
  · have ei := int_of hi
    subst ei
    split at h
    · rename_i hq
      obtain ⟨x, hx1, rfl⟩ := Option.map_eq_some_iff.1 h
      obtain ⟨A, cap, cs, L0, L1, rfl, h2, h3, h5, h6, h7, ho⟩ := slice_of hx
      obtain ⟨h0, rfl⟩ := hq
      have hlt := (List.getElem?_eq_some_iff.1 hx1).1
      obtain ⟨b, off, rfl, rfl, hc⟩ := h6.at_ (by omega)
      obtain ⟨c, L', a1, a2, a3, a4⟩ := h7.at hx1
      refine ⟨_, run b off _ _ _ _ h0 (by omega), ⟨b, off + _, c, L', by rw [Nat.add_zero], fun j u hj => ?_, a1, fun y my => ?_, ?_⟩, trivial⟩
      · rw [Nat.add_assoc]; exact hc _ u (a4 j u hj)
      · rcases List.mem_cons.1 my with rfl | my
        · exact ho _ (by simp)
        · exact ho _ (by simp [a3 y my])
      · exact h6.lt h5 b (by simp)
    · simp at h
  · rename_i k _ _
    have ei := int_of hi
    subst ei
    split at h
    · rename_i e' m' xs d hk
      split at h
      · rename_i hq
        obtain ⟨h0, h1, rfl⟩ := hq
        simp only [Option.some.injEq] at h
        subst h
        have hv := row_of hx
        subst hv
        obtain ⟨_, cs, L, o1, _⟩ := hI.deep hk
        rcases o1.2 with ⟨_, hn⟩ | ⟨b, o, cap, cur, hv, _⟩
        · omega
        · refine ⟨_, by rw [hv]; exact run b o _ _ _ _ h0 h1, ⟨b, o, _, _, hv, by simp⟩, by have := hxu (.row k) (by simp); exact this⟩
      · simp at h
    · simp at h
  · simp at h
theorem idxs_ok [NW] (htt : ∀ t i, tt t = some i → TOk P t i) {t : Nat} {x i v : SV} {vx vi : Value} (h : idxStr (tt t) x i = some v) (hx : SVR g w x vx) (hi : SVR g w i vi) :
    ∃ cv, (Instr.index t vx vi).run P w = .ok cv w ∧ SVR g w v cv ∧ svU U v := by
  unfold idxStr at h
  split at h
  · have ei := int_of hi
    subst ei
    obtain ⟨rfl, _⟩ := str_of hx
    split at h
    · rename_i hq
      obtain ⟨b, hb, rfl⟩ := Option.map_eq_some_iff.1 h
      refine ⟨_, ?_, SVR_int _ _, svU_c _⟩
      simp [Instr.index, asIntOf, run_und (isStr_und htt hq.2), hq.1, hb]
    · simp at h
  · simp at h
theorem pt_of [NW] {e : List CT} {v : Value} (h : SVR g w (.p false [.c (.pt e)]) v) : ∃ b cs L, v = .pointer (some ⟨b, 0, none⟩) ∧ b < w.heap.size ∧ CellsAt w b 0 cs ∧ RCs w e cs L ∧ ∀ x ∈ b :: L, ¬ g.own x := by
  obtain ⟨x, hx, h⟩ := h
  simp at hx
  subst hx
  obtain ⟨_, ⟨b, cs, L, h1, h2, rfl, h4, h5⟩, ho⟩ := h
  exact ⟨b, cs, L, h1, h2, h4, h5, ho⟩
theorem load_ok [NW] (htt : ∀ t i, tt t = some i → TOk P t i) (hI : HI W g st.ob w) (hU : StU U st) {t : Nat} {x v : SV} {vx : Value} (h : loadV st (tt t) x = some v) (hx : SVR g w x vx) :
    ∃ cv, (Instr.loadAt t vx).run P w = .ok cv w ∧ SVR g w v cv ∧ svU U v := by
  unfold loadV at h
  split at h
  · rename_i k off
    split at h
    · rename_i tb cs hk
      obtain ⟨b, h1, rfl⟩ := hx
      have ho := hI.obs k
      rw [hk] at ho
      obtain ⟨b', vs, o1, o2, o3, o4, o5⟩ := ho
      have hb : b = b' := by rw [o1] at h1; simpa using h1.symm
      subst hb
      have hu := hU.ob k
      rw [hk] at hu
      have hc : CellsAt w b 0 vs := fun j u hj => by
        rw [Nat.zero_add, cell_of_row w b j vs.toArray tb (0, 0) o4]; simpa using hj
      have := cut_ok (P := P) htt h hc o5 hu
      simpa using this
    · simp at h
  · rename_i k m i off
    split at h
    · rename_i e m' xs d hk
      obtain ⟨x, hx1, h'⟩ := Option.bind_eq_some_iff.1 h
      obtain ⟨b, o, n, c, h1, rfl⟩ := hx
      obtain ⟨hm, cs, L, o1, o2, o3, _⟩ := hI.deep hk
      split at h'
      · rename_i hmm
        subst hmm
        obtain ⟨c', L', a1, a2, a3, a4⟩ := o2.at hx1
        have hc : CellsAt w b (o + i * m) c' := fun j u hj => by
          rw [Nat.add_assoc]
          exact ownsV_at o1 h1 (i * m + j) u (a4 j u hj)
        rw [← Nat.add_assoc]
        exact cut_ok htt h' hc (a1.avr fun y my => o3 y (a3 y my)) (svU_cs true _)
      · simp at h'
    · simp at h
  · obtain ⟨b, lo, cs, L, rfl, h2, h3, h4, h5⟩ := hx
    exact cut_ok htt h h2 (h3.avr fun y my => h4 y (by simp [my])) (svU_cs true _)
  · obtain ⟨b, cs, L, rfl, h2, h3, h4, h5⟩ := pt_of hx
    have := cut_ok (P := P) (U := U) htt h h3 (h4.avr fun y my => h5 y (by simp [my])) (svU_cs true _)
    simpa using this
  · simp at h
theorem ptr_ok [NW] {d : Nat} {x v : SV} {vx : Value} (h : ptrAdd d x = some v) (hx : SVR g w x vx) (hu : svU U x) : ∃ b o, vx = .pointer (some ⟨b, o, none⟩) ∧ SVR g w v (.pointer (some ⟨b, o + d, none⟩)) ∧ svU U v := by
  unfold ptrAdd at h
  split at h <;> simp at h <;> subst h
  · obtain ⟨b, h1, rfl⟩ := hx; exact ⟨b, _, rfl, ⟨b, h1, rfl⟩, hu⟩
  · obtain ⟨b, o, n, c, h1, rfl⟩ := hx; exact ⟨b, _, rfl, ⟨b, o, n, c, h1, by simp only [Nat.add_assoc]⟩, hu⟩
  · obtain ⟨b, lo, cs, L, rfl, h⟩ := hx; exact ⟨b, _, rfl, ⟨b, lo, cs, L, by rw [Nat.add_assoc], h⟩, trivial⟩
  · obtain ⟨b, cs, L, rfl, h2, h3, h4, h5⟩ := pt_of hx
    exact ⟨b, 0, rfl, ⟨b, 0, cs, L, rfl, h3, h4, h5, h2⟩, trivial⟩
theorem fad_ok [NW] (htt : ∀ t i, tt t = some i → TOk P t i) {t f n : Nat} {fs : List FI} {z : List AV} (hti : tt t = some (.strct fs n z)) {fi : FI} (hf : fs[f]? = some fi) {x v : SV} {vx : Value} (h : ptrAdd fi.off x = some v) (hx : SVR g w x vx) (hu : svU U x) :
    ∃ cv, (Instr.fieldAt t vx f).run P w = .ok cv w ∧ SVR g w v cv ∧ svU U v := by
  obtain ⟨b, o, rfl, h1, h2⟩ := ptr_ok h hx hu
  obtain ⟨fields, i, zvs, u1, _, _, _, _, u2⟩ := htt t _ hti
  obtain ⟨fl, e1, e2, e3, j, d, e4, e5, _⟩ := u2.at hf
  have e1' : fields[f]? = some fl := by simpa using e1
  refine ⟨_, ?_, h1, h2⟩
  simp [Instr.fieldAt, run_und u1, e1', Instr.sureAddr, fieldPlace, run_size e4, e5, e3, add_lit0, e2]
theorem fie_ok [NW] (htt : ∀ t i, tt t = some i → TOk P t i) {t f n : Nat} {fs : List FI} {z : List AV} (hti : tt t = some (.strct fs n z)) {x v : SV} {vx : Value} (h : fieldV fs f x = some v) (hx : SVR g w x vx) (hu : svU U x) :
    ∃ cv, (Instr.field t vx f).run P w = .ok cv w ∧ SVR g w v cv ∧ svU U v := by
  unfold fieldV at h
  split at h
  · rename_i cs
    obtain ⟨fi, hf, h⟩ := Option.bind_eq_some_iff.1 h
    obtain ⟨vs, rfl, hr⟩ := hx
    obtain ⟨fields, i, zvs, u1, _, _, _, _, u2⟩ := htt t _ hti
    obtain ⟨fl, e1, e2, e3, j, d, e4, e5, e6, e7⟩ := u2.at hf
    have e1' : fields[f]? = some fl := by simpa using e1
    have hlen := hr.len
    split at h
    · rename_i ha
      split at h <;> simp at h
      rename_i hn
      subst h
      refine ⟨.agg ((vs.drop fi.off).take fi.size).toArray, ?_, ⟨_, rfl, (hr.drop _).take _⟩, fun y m => hu y (List.mem_of_mem_drop (List.mem_of_mem_take m))⟩
      simp [Instr.field, run_und u1, e1', asAgg, part, run_agg e6, e7, ha, run_size e4, e5, e2]
    · rename_i ha
      obtain ⟨y, hy, rfl⟩ := Option.map_eq_some_iff.1 h
      obtain ⟨u, b1, b2⟩ := hr.at hy
      refine ⟨u, ?_, ⟨y, rfl, b2⟩, fun z mz => by simp at mz; subst mz; exact hu z (List.mem_of_getElem? hy)⟩
      simp [Instr.field, run_und u1, e1', asAgg, part, run_agg e6, e7, ha, e2, b1]
  · simp at h
theorem pick_ok [NW] {c : Bool} {x y : SV} {vc vx vy : Value} (hc : SVR g w (.p false [.c (.bool c)]) vc) (hx : SVR g w x vx ∧ svU U x) (hy : SVR g w y vy ∧ svU U y) :
    ∃ cv, (do pure (Next.value (if ← asBool vc then vx else vy)) : Sem Next).run P w = .ok (.value cv) w ∧ SVR g w (if c = true then x else y) cv ∧ svU U (if c = true then x else y) := by
  have := bool_of hc
  subst this
  cases c
  · exact ⟨vy, by simp [asBool], by simpa using hy.1, by simpa using hy.2⟩
  · exact ⟨vx, by simp [asBool], by simpa using hx.1, by simpa using hx.2⟩
theorem ext_ok [NW] {i : Nat} {x v : SV} {vx : Value} (h : extV i x = some v) (hx : SVR g w x vx) (hu : svU U x) : ∃ cv, (Instr.extract vx i).run P w = .ok cv w ∧ SVR g w v cv ∧ svU U v := by
  unfold extV at h
  split at h
  · obtain ⟨y, hy, rfl⟩ := Option.map_eq_some_iff.1 h
    obtain ⟨vs, rfl, hr⟩ := hx
    obtain ⟨u, b1, b2⟩ := hr.at hy
    exact ⟨u, by simp [Instr.extract, b1], b2, hu y (List.mem_of_getElem? hy)⟩
  · simp at h
theorem max_ok [NW] {lo : Bool} {x y v : SV} {vx vy : Value} {ts : Array TypeId} {ty : TypeId} (h : maxV lo x y = some v) (hx : SVR g w x vx) (hy : SVR g w y vy) :
    ∃ cv, ((if lo then Builtin.min_ ts ty #[vx, vy] else Builtin.max_ ts ty #[vx, vy]) : Sem Value).run P w = .ok cv w ∧ SVR g w v cv ∧ svU U v := by
  unfold maxV at h
  split at h
  · have ex := int_of hx
    have ey := int_of hy
    subst ex ey
    simp only [Option.some.injEq] at h
    subst h
    refine ⟨_, ?_, SVR_int _ _, svU_c _⟩
    cases lo
    · simp [Builtin.max_, Builtin.max2]
    · simp [Builtin.min_, Builtin.min2]
  · simp at h
end
end
section
open Go.RowKit
theorem splice_len {α : Type} (l : List α) (off : Nat) (vs : List α) (h : off + vs.length ≤ l.length) : (splice l off vs).length = l.length := by
  simp [splice]; omega
theorem splice_cons {α : Type} (l : List α) (n : Nat) (v : α) (r : List α) (h : n + (r.length + 1) ≤ l.length) : splice (l.set n v) (n + 1) r = splice l n (v :: r) := by
  unfold splice
  have e1 : (l.set n v).take (n + 1) = l.take n ++ [v] := by
    rw [List.take_succ_eq_append_getElem (by simp; omega)]
    simp [List.take_set_of_le]
  have e2 : (l.set n v).drop (n + 1 + r.length) = l.drop (n + (v :: r).length) := by
    rw [List.drop_set_of_lt (by omega)]
    congr 1
    simp; omega
  rw [e1, e2]; simp
theorem foldl_set [NW] (off : Nat) : ∀ (vs : List Value) (k : Nat) (cells : Array Value), off + k + vs.length ≤ cells.size →
    (vs.zipIdx k).foldl (fun (cs : Array Value) (p : Value × Nat) => cs.setIfInBounds (off + p.2) p.1) cells = (splice cells.toList (off + k) vs).toArray
  | [], k, cells, h => by simp [splice]
  | v :: r, k, cells, h => by
    rw [List.zipIdx_cons, List.foldl_cons, foldl_set off r (k + 1) _ (by simp at h ⊢; omega)]
    have := splice_cons cells.toList (off + k) v r (by simpa using h)
    rw [← this]
    simp [Nat.add_assoc]
theorem fold_cells [NW] (off : Nat) (v : Value) (vs : List Value) (hv : v.cells = vs.toArray) (cells : Array Value) (h : off + vs.length ≤ cells.size) :
    v.cells.zipIdx.foldl (fun cs (c, j) => cs.setIfInBounds (off + j) c) cells = (splice cells.toList off vs).toArray := by
  have := foldl_set off vs 0 cells (by simpa using h)
  rw [hv, ← Array.foldl_toList]
  simpa using this
section
variable {P : Program} {W : Base} {U : Nat → Prop} {key : Nat} {st : St} {g : Gh} {w : World} {a : Act} {tt : Nat → Option TI}
theorem All2.splice {α β : Type} {R : α → β → Prop} {l vs : List α} {r us : List β} (h : All2 R l r) (h' : All2 R vs us) (off : Nat) : All2 R (splice l off vs) (splice r off us) := by
  unfold Go.Proofs.Ytnacpkmpdlodoaa.splice
  rw [h'.len]
  exact (h.take _).append (h'.append (h.drop _))
theorem avsU_splice {l vs : List AV} (h : avsU U l) (h' : avsU U vs) (off : Nat) : avsU U (splice l off vs) := by
  intro y m
  unfold splice at m
  rcases List.mem_append.1 m with m | m
  · exact h y (List.mem_of_mem_take m)
  · rcases List.mem_append.1 m with m | m
    · exact h' y m
    · exact h y (List.mem_of_mem_drop m)
theorem fill_ok [NW] {place : Nat → Option (Nat × Nat)} {fs : List FI} (hp : ∀ i fi, fs[i]? = some fi → place i = some (fi.off, fi.size)) :
    ∀ {parts : List (Nat × SV)} {ps : List (Nat × Value)} {cs cs' : List AV} {vs : List Value}, fillS fs cs parts = some cs' → All2 (fun p q => p.1 = q.1 ∧ SVR g w p.2 q.2 ∧ svU U p.2) parts ps → All2 (AVR g w) cs vs → avsU U cs →
      ∃ vs' : List Value, Instr.fill place vs.toArray ps = some vs'.toArray ∧ All2 (AVR g w) cs' vs' ∧ avsU U cs'
  | [], [], cs, cs', vs, h, _, hr, hu => by simp [fillS] at h; subst h; exact ⟨vs, rfl, hr, hu⟩
  | [], _ :: _, _, _, _, _, h, _, _ => h.elim
  | _ :: _, [], _, _, _, _, h, _, _ => h.elim
  | (i, s) :: r, (j, v) :: ps, cs, cs', vs, h, ⟨⟨e, hs, hsu⟩, hps⟩, hr, hu => by
    simp only at e hs hsu
    subst e
    cases s with
    | p ag us =>
      simp only [fillS] at h
      obtain ⟨f, hf, h⟩ := Option.bind_eq_some_iff.1 h
      split at h
      · rename_i hl
        obtain ⟨us', c1, c2⟩ := PVR.cells hs
        have hlen := c2.len
        have hlen2 := hr.len
        obtain ⟨vs', d1, d2, d3⟩ := fill_ok hp h hps (hr.splice c2 f.off) (avsU_splice hu hsu f.off)
        refine ⟨vs', ?_, d2, d3⟩
        have hcs : v.cells.size = us'.length := by simp [c1]
        rw [Instr.fill, hp i f hf]
        simp only
        rw [if_neg (by simp [hcs]; omega), fold_cells f.off v us' c1 _ (by simp; omega)]
        simpa using d1
      · simp at h
    | _ => simp [fillS] at h
theorem All2.of_map {α β γ : Type} {R : β → γ → Prop} (f : α → β) (h : α → γ) : ∀ {l : List α}, (∀ x ∈ l, R (f x) (h x)) → All2 R (l.map f) (l.map h)
  | [], _ => trivial
  | x :: l, hh => ⟨hh x (by simp), All2.of_map f h fun y m => hh y (by simp [m])⟩
theorem consts_AVR [NW] : ∀ {z : List AV} {zvs : List Value}, All2 (fun a v => constB a v = true) z zvs → All2 (AVR g w) z zvs ∧ avsU U z
  | [], [], _ => ⟨trivial, fun _ m => by simp at m⟩
  | x :: z, v :: zvs, h => by
    obtain ⟨h1, h2⟩ := consts_AVR (z := z) (zvs := zvs) h.2
    refine ⟨⟨const_AVR h.1, h1⟩, fun y m => ?_⟩
    rcases List.mem_cons.1 m with rfl | m
    · have := h.1
      cases y <;> first | trivial | simp [constB] at this
    · exact h2 y m
  | [], _ :: _, h => h.elim
  | _ :: _, [], h => h.elim
theorem places_ok : ∀ {fs : List FI} {fields : List Field}, All2 (fun (fi : FI) (f : Field) => f.offset = fi.off ∧ fi.size ≠ 0 ∧ ∃ j d, P.info? f.type = some j ∧ j.size = fi.size ∧ P.underlying f.type = some d ∧ aggD d = fi.agg) fs fields →
    fields.mapM (fun f => (P.info? f.type).map fun i => (f.offset, i.size)) = some (fs.map fun fi => (fi.off, fi.size))
  | [], [], _ => rfl
  | fi :: fs, f :: fields, ⟨⟨h1, _, j, d, h2, h3, _⟩, h⟩ => by
    simp [List.mapM_cons, h2, h3, h1, places_ok h]
  | [], _ :: _, h => h.elim
  | _ :: _, [], h => h.elim
theorem build_ok [NW] (htt : ∀ t i, tt t = some i → TOk P t i) (hS : ∀ t, SVR g w (st.sl t) (a.tmps.getD t undef)) (hU : StU U st) {t n : Nat} {fs : List FI} {z : List AV} (hti : tt t = some (.strct fs n z)) {parts : Array (Nat × Operand)} {cs : List AV} (h : fillS fs z (parts.toList.map (partS tt st fs z)) = some cs) :
    ∃ cv, (Instr.build t (parts.map fun (i, x) => (i, a.eval x))).run P w = .ok cv w ∧ SVR g w (.p true cs) cv ∧ svU U (.p true cs) := by
  obtain ⟨fields, i, zvs, u1, u2, u3, u4, u5, u6⟩ := htt t _ hti
  obtain ⟨hz, hzu⟩ := consts_AVR (g := g) (w := w) (U := U) u5
  have hparts : All2 (fun (p : Nat × SV) (q : Nat × Value) => p.1 = q.1 ∧ SVR g w p.2 q.2 ∧ svU U p.2) (parts.toList.map (partS tt st fs z)) (parts.toList.map fun p => (p.1, a.eval p.2)) := by
    refine All2.of_map _ _ fun p _ => ?_
    unfold partS
    split
    · rename_i hc
      rw [hc]
      refine ⟨rfl, ?_⟩
      dsimp only
      split
      · exact ⟨⟨_, rfl, rfl⟩, fun y m => by simp at m; subst m; trivial⟩
      · exact ⟨trivial, trivial⟩
    · have := ev_ok htt hS hU 0 p.2
      exact ⟨rfl, this⟩
  have hpl : ∀ (i : Nat) (fi : FI), fs[i]? = some fi → ((fs.map fun (fi : FI) => (fi.off, fi.size)).toArray[i]?) = some (fi.off, fi.size) := fun i fi hf => by simp [hf]
  obtain ⟨vs', d1, d2, d3⟩ := fill_ok hpl h hparts hz hzu
  refine ⟨.agg vs'.toArray, run_build w t _ _ ?_, ⟨vs', rfl, d2⟩, d3⟩
  unfold Program.built
  simp only [u1, u2, u4, places_ok u6]
  have e : (parts.map fun (x : Nat × Operand) => (x.1, a.eval x.2)).toList = parts.toList.map fun p => (p.1, a.eval p.2) := by simp
  have e2 : (parts.map fun x => match x with | (i, x) => (i, a.eval x)) = parts.map fun (x : Nat × Operand) => (x.1, a.eval x.2) := rfl
  rw [e2, e]
  exact d1
theorem Sl.sub {m n : Nat} {A : Option Addr} {cs : List Value} {L : List Nat} (h : Sl w m A n cs L) (l q cap : Nat) (hm : 0 < m) (hq : l + q ≤ n) (hcap : n ≤ cap) :
    ∃ A' L', A' = (if cap = l then A else A.map (·.add (l * m))) ∧ Sl w m A' q ((cs.drop (l * m)).take (q * m)) L' ∧ ∀ b ∈ L', b ∈ L := by
  have hlen := h.1
  have hlm : l * m + q * m ≤ n * m := by rw [← Nat.add_mul]; exact Nat.mul_le_mul_right m hq
  refine ⟨_, if q = 0 then [] else L, rfl, ⟨by simp; omega, ?_⟩, fun b mb => ?_⟩
  · by_cases hq0 : q = 0
    · exact .inl ⟨hq0, by simp [hq0]⟩
    · rcases h.2 with ⟨h0, _⟩ | ⟨_, b, off, rfl, rfl, hc⟩
      · omega
      · refine .inr ⟨by omega, b, off + l * m, by rw [if_neg (by omega)]; simp [add_lit0], by simp [hq0], fun j u hj => ?_⟩
        rw [Nat.add_assoc]
        refine hc _ u ?_
        have hjq : j < q * m := by
          have := (List.getElem?_eq_some_iff.1 hj).1
          simp at this; omega
        rw [List.getElem?_take, if_pos hjq, List.getElem?_drop] at hj
        exact hj
  · split at mb
    · simp at mb
    · exact mb
theorem REs.drop {m : Nat} : ∀ {xs : List (List CT)} {cs : List Value} {L : List Nat} (l : Nat), REs w m xs cs L → ∃ L', REs w m (xs.drop l) (cs.drop (l * m)) L' ∧ ∀ b ∈ L', b ∈ L
  | xs, cs, L, 0, h => ⟨L, by simpa using h, fun _ mb => mb⟩
  | [], cs, L, l + 1, h => ⟨[], by obtain ⟨rfl, rfl⟩ := h; simp [REs], by simp⟩
  | x :: r, _, _, l + 1, ⟨c1, c2, L1, L2, rfl, rfl, h3, h4⟩ => by
    obtain ⟨L', h5, h6⟩ := REs.drop l h4
    refine ⟨L', ?_, fun b mb => by simp [h6 b mb]⟩
    have e : (l + 1) * m = c1.length + l * m := by rw [h3.2, Nat.add_mul]; omega
    have e2 : (c1 ++ c2).drop (c1.length + l * m) = c2.drop (l * m) := by
      rw [List.drop_append, List.drop_of_length_le (Nat.le_add_right _ _), List.nil_append, Nat.add_sub_cancel_left]
    rw [e, e2]
    simpa using h5
theorem REs.take {m : Nat} : ∀ {xs : List (List CT)} {cs : List Value} {L : List Nat} (l : Nat), REs w m xs cs L → ∃ L', REs w m (xs.take l) (cs.take (l * m)) L' ∧ ∀ b ∈ L', b ∈ L
  | xs, cs, L, 0, h => ⟨[], by simp [REs], by simp⟩
  | [], cs, L, l + 1, h => ⟨[], by obtain ⟨rfl, rfl⟩ := h; simp [REs], by simp⟩
  | x :: r, _, _, l + 1, ⟨c1, c2, L1, L2, rfl, rfl, h3, h4⟩ => by
    obtain ⟨L', h5, h6⟩ := REs.take l h4
    refine ⟨L1 ++ L', ?_, fun b mb => by
      rcases List.mem_append.1 mb with mb | mb
      · simp [mb]
      · simp [h6 b mb]⟩
    have e : (l + 1) * m = c1.length + l * m := by rw [h3.2, Nat.add_mul]; omega
    rw [e, List.take_length_add_append]
    exact ⟨c1, _, L1, L', rfl, rfl, h3, h5⟩
theorem bound_run {k : IntKind} {i : Int} {y : Nat} {code : BoundsCode} (h0 : 0 ≤ i) (h1 : i ≤ y) : (Instr.sliceBound (.int k i) y code).run P w = .ok i.toNat w := by
  simp [Instr.sliceBound, asIntOf, h0, h1]
def optR [NW] (g : Gh) (w : World) : Option SV → Option Value → Prop
  | none, none => True
  | some s, some u => SVR g w s u
  | _, _ => False
theorem bounds_run [NW] {lo hi : Option SV} {vlo vhi : Option Value} {len cap l h : Nat} {b : Bool} (hh : hiB len hi = some h) (hl : loB h lo = some l) (hlo : optR g w lo vlo) (hhi : optR g w hi vhi) (hc : len ≤ cap) :
    (Instr.sliceBounds b len cap vlo vhi none).run P w = .ok (l, h, cap) w ∧ l ≤ h ∧ h ≤ len := by
  have e1 : ((match vhi, (none : Option Value) with | some v, some _ => Instr.sliceBound v cap .slice3B | some v, none => Instr.sliceBound v cap (if b then .sliceAcap else .sliceAlen) | none, none => pure len | none, some _ => stuck "Slice: max without high") : Sem Nat).run P w = .ok h w ∧ h ≤ len := by
    unfold hiB at hh
    split at hh
    · simp only [Option.some.injEq] at hh
      subst hh
      cases vhi with
      | none => exact ⟨rfl, Nat.le_refl _⟩
      | some v => exact hhi.elim
    · split at hh <;> simp only [Option.some.injEq, reduceCtorEq] at hh
      rename_i hq
      subst hh
      cases vhi with
      | none => exact hhi.elim
      | some v =>
        have e := int_of hhi
        subst e
        exact ⟨bound_run hq.1 (by omega), by omega⟩
    · simp at hh
  have e2 : ((match vlo with | some v => Instr.sliceBound v h .sliceB | none => pure 0) : Sem Nat).run P w = .ok l w ∧ l ≤ h := by
    unfold loB at hl
    split at hl
    · simp only [Option.some.injEq] at hl
      subst hl
      cases vlo with
      | none => exact ⟨rfl, Nat.zero_le _⟩
      | some v => exact hlo.elim
    · split at hl <;> simp only [Option.some.injEq, reduceCtorEq] at hl
      rename_i hq
      subst hl
      cases vlo with
      | none => exact hlo.elim
      | some v =>
        have e := int_of hlo
        subst e
        exact ⟨bound_run hq.1 hq.2, by omega⟩
    · simp at hl
  refine ⟨?_, e2.2, e1.2⟩
  unfold Instr.sliceBounds
  simp only [Sem.run_bind, Sem.run_pure, Result.andThen_ok, Option.isSome_none, Bool.false_eq_true, if_false]
  have e1' := e1.1
  have e2' := e2.1
  cases vhi <;> cases vlo <;> simp_all
theorem slice_ok [NW] (htt : ∀ t i, tt t = some i → TOk P t i) {t : Nat} {x v : SV} {lo hi : Option SV} {vx : Value} {vlo vhi : Option Value} (h : sliceV (tt t) lo hi x = some v) (hx : SVR g w x vx)
    (hlo : optR g w lo vlo) (hhi : optR g w hi vhi) : ∃ cv, (Instr.sliceAt t vx vlo vhi none).run P w = .ok cv w ∧ SVR g w v cv ∧ svU U v := by
  unfold sliceV at h
  split at h
  · rename_i s
    split at h
    · rename_i hstr
      have hu := isStr_und htt hstr
      obtain ⟨q, hq, h⟩ := Option.bind_eq_some_iff.1 h
      obtain ⟨l, hl, rfl⟩ := Option.map_eq_some_iff.1 h
      obtain ⟨rfl, hs⟩ := str_of hx
      obtain ⟨b1, b2, b3⟩ := bounds_run (P := P) (b := false) hq hl hlo hhi (Nat.le_refl _)
      refine ⟨_, ?_, SVR_str (by rw [ByteArray.size_extract]; omega), svU_c _⟩
      simp [Instr.sliceAt, run_und hu, Instr.slice, b1]
    · simp at h
  · rename_i e m xs
    split at h
    · rename_i hsz
      obtain ⟨q, hq, h⟩ := Option.bind_eq_some_iff.1 h
      obtain ⟨l, hl, rfl⟩ := Option.map_eq_some_iff.1 h
      obtain ⟨A, cap, cs, L0, L1, rfl, h2, h3, h5, h6, h7, ho⟩ := slice_of hx
      obtain ⟨b1, b2, b3⟩ := bounds_run (P := P) (b := true) hq hl hlo hhi h2
      obtain ⟨e', b', z', hti⟩ : ∃ e' b' z', tt t = some (.slice e' m b' z') := by
        unfold sizeSl at hsz
        split at hsz
        · rename_i h1; subst hsz; exact ⟨_, _, _, h1⟩
        · omega
      obtain ⟨hu, _, _, ⟨ie, zv, hie, hsi, _⟩, _⟩ := htt t _ hti
      have fin : SVR g w (.p false [.c (.sl e m ((xs.take q).drop l))]) (.slice (if cap = l then A else A.map (·.add (l * m))) (q - l) (cap - l)) := by
        obtain ⟨A', L', rfl, s1, s2⟩ := h6.sub l (q - l) cap h5 (by omega) h2
        obtain ⟨M1, r1, r2⟩ := h7.take q
        obtain ⟨M2, r3, r4⟩ := r1.drop l
        have hlen : ((xs.take q).drop l).length = q - l := by simp; omega
        have e1 : (cs.drop (l * m)).take ((q - l) * m) = (cs.take (q * m)).drop (l * m) := by
          rw [List.drop_take, Nat.sub_mul]
        rw [e1] at s1
        refine ⟨_, rfl, L' ++ M2, ⟨_, _, _, L', M2, by rw [hlen], by rw [hlen]; omega, by omega, rfl, h5, by rw [hlen]; exact s1, r3⟩, fun b mb => ?_⟩
        rcases List.mem_append.1 mb with mb | mb
        · exact ho b (by simp [s2 b mb])
        · exact ho b (by simp [r2 b (r4 b mb)])
      refine ⟨_, ?_, fin, svU_c _⟩
      simp [Instr.sliceAt, run_und hu, Instr.slice, b1, run_size hie, hsi]
    · simp at h
  · simp at h
end
end
section
open Go.RowKit
theorem upd_same {α : Type} (f : Nat → α) (k : Nat) (v : α) : upd f k v k = v := by simp [upd]
theorem upd_ne {α : Type} (f : Nat → α) {k j : Nat} (v : α) (h : j ≠ k) : upd f k v j = f j := by simp [upd, h]
theorem updAll_append (ob : Nat → Ob) (u v : List (Nat × Ob)) : updAll ob (u ++ v) = updAll (updAll ob u) v := by
  induction u generalizing ob with
  | nil => rfl
  | cons p r ih => exact ih _
theorem updAll_gone : ∀ (ks : List Nat) (ob : Nat → Ob) (k : Nat), updAll ob (goneAll ks) k = if k ∈ ks then .gone else ob k
  | [], ob, k => by simp [goneAll, updAll]
  | x :: ks, ob, k => by
    have : goneAll (x :: ks) = (x, Ob.gone) :: goneAll ks := rfl
    rw [this, updAll, updAll_gone ks]
    by_cases h1 : k ∈ ks
    · simp [h1]
    · by_cases h2 : k = x
      · subst h2; simp [upd]
      · simp [h1, h2, upd]
theorem updAll_turn [NW] (ks : List Nat) (ob : Nat → Ob) (key : Nat) (o : Ob) (k : Nat) : updAll ob (goneAll ks ++ [(key, o)]) k = if k = key then o else if k ∈ ks then .gone else ob k := by
  rw [updAll_append]
  simp only [updAll, upd, updAll_gone]
def Gh.turn (g : Gh) (ks : List Nat) (key : Nat) (v : Value) (O D : List Nat) : Gh :=
  ⟨upd g.val key v, fun k => if k = key then O else if k ∈ ks then [] else g.O k, fun k => if k = key then D else if k ∈ ks then [] else g.D k, g.Z⟩
section
variable {P : Program} {W : Base} {U : Nat → Prop} {key : Nat} {st : St} {g : Gh} {w w' : World} {a : Act} {tt : Nat → Option TI}
theorem turn_own {ks : List Nat} {v : Value} {O D : List Nat} {b : Nat} (h : (g.turn ks key v O D).own b) : b ∈ O ∨ (∃ k, k ∉ ks ∧ k ≠ key ∧ b ∈ g.O k) ∨ g.Z b := by
  rcases h with ⟨k, hk⟩ | h
  · simp only [Gh.turn] at hk
    split at hk
    · exact .inl hk
    · rename_i h1
      split at hk
      · simp at hk
      · rename_i h2; exact .inr (.inl ⟨k, h2, h1, hk⟩)
  · exact .inr (.inr h)
theorem turn_grow {n : Nat} {ks : List Nat} {v : Value} {O D : List Nat} (hO : ∀ b ∈ O, (∃ k ∈ ks, b ∈ g.O k) ∨ n ≤ b) (hD : ∀ b ∈ D, (∃ k ∈ ks, b ∈ g.O k ++ g.D k) ∨ n ≤ b) : OGrow g (g.turn ks key v O D) n := by
  refine .of (fun b hb => ?_) fun j b mb => ?_
  · rcases turn_own hb with m | ⟨k, _, _, m⟩ | m
    · rcases hO b m with ⟨k, _, m⟩ | m
      · exact .inl (.inl ⟨k, m⟩)
      · exact .inr m
    · exact .inl (.inl ⟨k, m⟩)
    · exact .inl (.inr m)
  · simp only [Gh.turn] at mb
    split at mb
    · refine (hD b mb).imp (fun ⟨k, _, mk⟩ => ?_) id
      rcases List.mem_append.1 mk with m1 | m1
      · exact .inl (.inl ⟨k, m1⟩)
      · exact .inr ⟨k, m1⟩
    · split at mb
      · simp at mb
      · exact .inl (.inr ⟨j, mb⟩)
theorem HI.turn [NW] {ob : Nat → Ob} (h : HI W g ob w) (hobU : ∀ k, obU U (ob k)) (hkey : ¬ U key) (ks : List Nat) (hks : ∀ k ∈ ks, U k)
    (hbel : Bel W w') (hsz : w.heap.size ≤ w'.heap.size) (hw : ∀ b, b < w.heap.size → (∀ k ∈ ks, b ∉ g.O k) → w'.heap[b]? = w.heap[b]?)
    {v : Value} {O D : List Nat} {o : Ob} (hO : ∀ b ∈ O, (∃ k ∈ ks, b ∈ g.O k) ∨ w.heap.size ≤ b) (hD : ∀ b ∈ D, (∃ k ∈ ks, b ∈ g.O k ++ g.D k) ∨ w.heap.size ≤ b)
    (hnd : (O ++ D).Nodup) (hpl : ∀ b ∈ O ++ D, (W.heap.size ≤ b ∨ W.x b) ∧ PlainAt w' o b)
    (hob : OGrow g (g.turn ks key v O D) w.heap.size → ObR (g.turn ks key v O D) w' key o) :
    HI W (g.turn ks key v O D) (updAll ob (goneAll ks ++ [(key, o)])) w' ∧ ∀ x u, svU U x → SVR g w x u → SVR (g.turn ks key v O D) w' x u := by
  have hkk : key ∉ ks := fun m => hkey (hks key m)
  have hval : ∀ k, U k → (g.turn ks key v O D).val k = g.val k := fun k hk => upd_ne _ _ fun e => hkey (e ▸ hk)
  have hown : OGrow g (g.turn ks key v O D) w.heap.size := turn_grow hO hD
  have hFnew : ∀ b ∈ O ++ D, (∃ k ∈ ks, b ∈ g.O k ++ g.D k) ∨ w.heap.size ≤ b := fun b m => by
    rcases List.mem_append.1 m with m | m
    · exact (hO b m).imp (fun ⟨k, h1, h2⟩ => ⟨k, h1, by simp [h2]⟩) id
    · exact hD b m
  refine ⟨h.step (fun k => k = key ∨ k ∈ ks) hbel rfl (fun b hb hn => hw b hb fun k hk => hn k (.inr hk)) (fun k hk => ?_) hobU hval hown (fun k hk => ?_), fun x u hx hu => hu.move hx hval (fun b hb hn => hw b hb fun k _ m => hn (.inl ⟨k, m⟩)) hown hsz⟩
  · have h1 : k ≠ key := fun e => hk (.inl e)
    have h2 : k ∉ ks := fun e => hk (.inr e)
    rw [updAll_turn]
    simp [Gh.turn, h1, h2, upd]
  · rw [updAll_turn]
    by_cases h1 : k = key
    · subst h1
      have eO : (g.turn ks k v O D).O k = O := by simp [Gh.turn]
      have eD : (g.turn ks k v O D).D k = D := by simp [Gh.turn]
      rw [if_pos rfl, eO, eD]
      refine ⟨hob hown, hnd, hpl, fun j hj b m mj => ?_⟩
      have hjk : ¬ j = k := fun e => hj e.symm
      by_cases h2 : j ∈ ks
      · simp [Gh.turn, hjk, h2] at mj
      · have mj' : b ∈ g.O j ++ g.D j := by simpa [Gh.turn, hjk, h2] using mj
        rcases hFnew b m with ⟨q, q1, q2⟩ | q
        · exact h.apart q j (fun e => h2 (e ▸ q1)) b q2 mj'
        · have := h.lt j b mj'; omega
    · have h2 : k ∈ ks := hk.resolve_left h1
      have eO : (g.turn ks key v O D).O k = [] := by simp [Gh.turn, h1, h2]
      have eD : (g.turn ks key v O D).D k = [] := by simp [Gh.turn, h1, h2]
      rw [if_neg h1, if_pos h2, eO, eD]
      exact ⟨⟨eO, eD⟩, by simp, by simp, by simp⟩
theorem wf_turn [NW] (hU : StU U st) (ks : List Nat) {o : Ob} (ho : obU (Uk U key) o) : (∀ k, obU (Uk U key) (updAll st.ob (goneAll ks ++ [(key, o)]) k)) ∧ ∀ k, ¬ Uk U key k → updAll st.ob (goneAll ks ++ [(key, o)]) k = .gone := by
  constructor
  · intro k
    rw [updAll_turn]
    split
    · exact ho
    · split
      · trivial
      · exact (hU.ob k).mono fun _ => .inl
  · intro k hk
    rw [updAll_turn, if_neg (fun e => hk (.inr (by omega)))]
    split
    · rfl
    · exact hU.gone k fun h => hk (.inl h)
theorem key_in : Uk U key key := .inr (by omega)
/-- a new box -/
theorem box_ok [NW] (hI : HI W g st.ob w) (hU : StU U st) (hkey : ¬ U key) {t : TypeId} {cs : List AV} {vs : List Value} (hr : All2 (AVR g w) cs vs) (hu : avsU U cs) {s : Sem Next}
    (hrun : s.run P w = .ok (.value (.pointer (some ⟨w.heap.size, 0, none⟩))) (w.alloc (.cells vs.toArray t))) : Fin P W U key st g w s (.bp key 0, [(key, .box t cs)]) := by
  have hb : Below w.heap.size w (w.alloc (.cells vs.toArray t)) := (Below.refl _ _).alloc (Nat.le_refl _) _
  obtain ⟨h1, h2⟩ := hI.turn (key := key) (U := U) (w' := w.alloc (.cells vs.toArray t)) (v := .pointer (some ⟨w.heap.size, 0, none⟩)) (O := [w.heap.size]) (D := []) (o := .box t cs) hU.ob hkey [] (by simp)
    (hI.below.trans hb) hb.size (fun b hb' _ => hb.block b hb') (by simp) (by simp) (by simp) (fun b m => by
      simp at m; subst m; exact ⟨.inl hI.below.size, _, _, heap_alloc_new w _⟩) (fun hown => ⟨w.heap.size, vs, by simp [Gh.turn, upd], by simp [Gh.turn], by simp [Gh.turn], heap_alloc_new w _,
        AVRs.move hr hu (fun k hk => upd_ne _ _ fun e => hkey (e ▸ hk)) (fun b hb' _ => hb.block b hb') hown⟩)
  have hwf := wf_turn (key := key) (o := .box t cs) hU [] (avsU.mono (fun _ => .inl) hu)
  exact ⟨_, _, _, .inl hrun, h1, ⟨w.heap.size, by simp [Gh.turn, upd], rfl⟩, h2, key_in, hwf.1, hwf.2⟩
theorem setRow_ok (b : Nat) (cs cs' : Array Value) (t : TypeId) (hb : w.heap[b]? = some (.cells cs t (0, 0))) : (w.setRow b cs').heap[b]? = some (.cells cs' t (0, 0)) ∧ (∀ k, k ≠ b → (w.setRow b cs').heap[k]? = w.heap[k]?) ∧ (w.setRow b cs').heap.size = w.heap.size ∧ (w.setRow b cs').os = w.os ∧ (w.setRow b cs').tape = w.tape ∧ (w.setRow b cs').output = w.output := by
  refine ⟨setRow_heap w b cs cs' t _ hb, fun k hk => ?_, ?_, rfl, rfl, rfl⟩
  · have hbk : ¬ b = k := fun e => hk e.symm
    simp [World.setRow, Array.getElem?_modify, hbk]
  · simp [World.setRow]
/-- a store into a box -/
theorem store_bp [NW] (htt : ∀ t i, tt t = some i → TOk P t i) (hI : HI W g st.ob w) (hU : StU U st) {t k off tb : Nat} {cs vs : List AV} {va vv : Value} {ag : Bool} (hk : st.ob k = .box tb cs) (hl : vs.length = sizeTI (tt t)) (ho : off + vs.length ≤ cs.length)
    (ha : SVR g w (.bp k off) va) (hv : SVR g w (.p ag vs) vv) (hvu : avsU U vs) (hpos : 0 < vs.length) {s : Sem Next} (hs : s = (do Instr.storeAt t va vv; pure .skip)) : Fin P W U key st g w s (.und, [(k, .box tb (splice cs off vs))]) := by
  obtain ⟨b, h1, rfl⟩ := ha
  have hob := hI.obs k
  rw [hk] at hob
  obtain ⟨b', us, o1, o2, o3, o4, o5⟩ := hob
  have hb : b = b' := by rw [o1] at h1; simpa using h1.symm
  subst hb
  have hlen := o5.len
  obtain ⟨xs, c1, c2⟩ := PVR.cells hv
  have hxl := c2.len
  have hcu := hU.ob k
  rw [hk] at hcu
  obtain ⟨r1, r2, r3, r4, r5, r6⟩ := setRow_ok b us.toArray (splice us off xs).toArray tb o4
  have hsize : (sizeOf t).run P w = .ok xs.length w := by
    rw [← hxl, hl]
    unfold sizeTI at hl ⊢
    cases hti : tt t with
    | none => rw [hti] at hl; simp at hl; simp [hl] at hpos
    | some i =>
      cases i with
      | atom z => obtain ⟨d, zv, i, _, _, h3, _, h4, _⟩ := htt t _ hti; rw [run_size h3, h4]
      | strct fs n z => obtain ⟨_, i, _, _, h3, h4, _⟩ := htt t _ hti; rw [run_size h3, h4]
      | slice e m b z => obtain ⟨_, _, _, _, j, h3, h4, _⟩ := htt t _ hti; rw [run_size h3, h4]
      | _ => rw [hti] at hl; simp at hl; simp [hl] at hpos
  have hst := run_storeCells_at (P := P) b off tb xs 0 us.toArray w o4 (by simp; omega) (AVRs.one c2)
  have hrun : s.run P w = .ok .skip (w.setRow b (splice us off xs).toArray) := by
    subst hs
    have e : (us.toArray.toList.take (off + 0) ++ xs ++ us.toArray.toList.drop (off + 0 + xs.length)).toArray = (splice us off xs).toArray := by simp [splice]
    rw [e] at hst
    simp [Instr.storeAt, Instr.sureAddr, storeVar, c1, hsize, hst]
  have hmv : ∀ b', b' < w.heap.size → ¬ g.own b' → (w.setRow b (splice us off xs).toArray).heap[b']? = w.heap[b']? := fun b' _ hn => r2 b' fun e => hn (.inl ⟨k, by simp [o2, e]⟩)
  have hbW : W.heap.size ≤ b ∨ W.x b := (hI.plain k b (by simp [o2])).1
  refine ⟨g, undef, _, .inr ⟨hrun, rfl⟩, ?_, rfl, fun x u hx hu => hu.move hx (fun _ _ => rfl) hmv (OGrow.refl _ _) (by omega), trivial, fun q => ?_, fun q hq => ?_⟩
  · refine hI.step (U := U) (fun q => q = k) ?_ rfl (fun b' _ hn => r2 b' fun e => hn k rfl (by simp [o2, e])) (fun q hq => ⟨upd_ne _ _ hq, rfl, rfl, rfl⟩) hU.ob (fun _ _ => rfl) (OGrow.refl _ _) (fun q hq => ?_)
    · exact ⟨r4.trans hI.below.os, r5.trans hI.below.tape, r6.trans hI.below.output, by have := hI.below.size; omega, fun q hq hx => by rw [r2 q (fun e => by subst e; rcases hbW with h | h; omega; exact hx h)]; exact hI.below.block q hq hx⟩
    · subst hq
      refine ⟨?_, hI.nodup q, fun b' m => ?_, hI.apart q⟩
      · simp only [updAll, upd_same]
        exact ⟨b, _, o1, o2, o3, r1, (AVRs.move o5 hcu (fun _ _ => rfl) hmv (OGrow.refl _ _)).splice (AVRs.move c2 hvu (fun _ _ => rfl) hmv (OGrow.refl _ _)) off⟩
      · simp [o2, o3] at m
        subst m
        refine ⟨hbW, ?_⟩
        simp only [updAll, upd_same]
        exact ⟨_, _, r1⟩
  · simp only [updAll, upd]
    split
    · exact avsU.mono (fun _ => .inl) (avsU_splice hcu hvu off)
    · exact (hU.ob q).mono fun _ => .inl
  · simp only [updAll, upd]
    split
    · rename_i e; subst e
      exact absurd (hU.gone q fun h => hq (.inl h)) (by simp [hk])
    · exact hU.gone q fun h => hq (.inl h)
end
end
section
open Go.RowKit
section
variable {P : Program} {W : Base} {U : Nat → Prop} {key : Nat} {st : St} {g : Gh} {w w' : World} {a : Act} {tt : Nat → Option TI}
/-- the blocks of what was used up -/
def Gh.F (g : Gh) (ks : List Nat) : List Nat := ks.flatMap fun k => g.O k ++ g.D k
def FP (g : Gh) (ks : List Nat) (d : Nat) (L : List Nat) : Prop := (d = 2 → L.Sublist (g.F ks)) ∧ d ≤ 2 ∧ 0 < d ∧ ∀ b ∈ L, ¬ g.own b ∨ ∃ k ∈ ks, b ∈ g.O k
theorem FP.nil : FP g [] 2 [] := ⟨fun _ => by simp [Gh.F], by simp⟩
theorem FP.append {ks ks' : List Nat} {d d' : Nat} {L L' : List Nat} (h : FP g ks d L) (h' : FP g ks' d' L') : FP g (ks ++ ks') (dmin d d') (L ++ L') := by
  have q1 := h.2.1
  have q2 := h'.2.1
  have q3 := h.2.2.1
  have q4 := h'.2.2.1
  refine ⟨fun hd => ?_, by unfold dmin; split <;> omega, by unfold dmin; split <;> omega, fun b m => ?_⟩
  · have hd' : d = 2 ∧ d' = 2 := by unfold dmin at hd; split at hd <;> omega
    simp only [Gh.F, List.flatMap_append]
    exact List.Sublist.append (h.1 hd'.1) (h'.1 hd'.2)
  · rcases List.mem_append.1 m with m | m
    · exact (h.2.2.2 b m).imp id fun ⟨k, h1, h2⟩ => ⟨k, by simp [h1], h2⟩
    · exact (h'.2.2.2 b m).imp id fun ⟨k, h1, h2⟩ => ⟨k, by simp [h1], h2⟩
theorem HI.nodupF [NW] {ob : Nat → Ob} (hI : HI W g ob w) : ∀ {ks : List Nat}, ks.Nodup → (g.F ks).Nodup
  | [], _ => by simp [Gh.F]
  | k :: ks, h => by
    simp only [Gh.F, List.flatMap_cons, List.nodup_append]
    rw [List.nodup_cons] at h
    refine ⟨List.nodup_append.1 (hI.nodup k), hI.nodupF h.2, fun x hx y hy e => ?_⟩
    subst e
    obtain ⟨j, hj, hy⟩ := List.mem_flatMap.1 hy
    exact hI.apart k j (fun e => h.1 (e ▸ hj)) x hx hy
theorem mem_F {ks : List Nat} {b : Nat} (h : b ∈ g.F ks) : ∃ k ∈ ks, b ∈ g.O k ++ g.D k := by simpa [Gh.F] using h
theorem Sl.row {B e m n : Nat} {v : Value} {cs : List Value} (h : w.ownsV B e m v n cs) : ∃ A cap L0, v = .slice A n cap ∧ n ≤ cap ∧ cap ≤ maxLen ∧ Sl w m A n cs L0 ∧ L0.Sublist v.ownBlock.toList := by
  obtain ⟨A, cap, rfl, h1, h2⟩ := ownV_slice h
  obtain ⟨L0, h3, _, h4⟩ := Sl.of_ownV h
  refine ⟨A, cap, L0, rfl, h1, h2, h3, ?_⟩
  rcases h3.2 with ⟨_, rfl⟩ | ⟨_, b, off, rfl, rfl, _⟩
  · exact List.nil_sublist _
  · simp [Value.ownBlock]
theorem NR.toC [NW] {x : CT} {v : Value} (h : NR g w x v) : ∃ L, RC w x v L ∧ ∀ b ∈ L, ¬ g.own b := by
  obtain ⟨e, m, xs, cs, L, rfl, h2, h3, h4, h5, h6⟩ := h
  obtain ⟨A, cap, L0, s1, s2, s3, s4, s5⟩ := Sl.row h3
  refine ⟨L0 ++ L, ⟨A, cap, cs, L0, L, s1, s2, s3, rfl, h2, s4, h4⟩, fun b mb o => (h6 b ?_).1 (.inl o)⟩
  rcases List.mem_append.1 mb with m1 | m1
  · simp [s5.subset m1]
  · simp [m1]
theorem avT_ok [NW] (hI : HI W g st.ob w) {x : AV} {ct : CT} {ks : List Nat} {d : Nat} {v : Value} (h : avT st x = some (ct, ks, d)) (hx : AVR g w x v) (hu : avU U x) : ∃ L, RC w ct v L ∧ FP g ks d L ∧ ∀ k ∈ ks, U k := by
  cases x with
  | c y =>
    obtain ⟨L, h1, h2⟩ := hx
    cases y <;> simp only [avT, Option.some.injEq, Prod.mk.injEq] at h <;> obtain ⟨rfl, rfl, rfl⟩ := h
    · exact ⟨L, h1, ⟨fun _ => by rw [h1.2]; simp [Gh.F], by simp, by simp, fun b m => .inl (h2 b m)⟩, by simp⟩
    · exact ⟨L, h1, ⟨fun _ => by rw [h1.2]; simp [Gh.F], by simp, by simp, fun b m => .inl (h2 b m)⟩, by simp⟩
    · exact ⟨L, h1, ⟨fun _ => by rw [h1.2.1]; simp [Gh.F], by simp, by simp, fun b m => .inl (h2 b m)⟩, by simp⟩
    all_goals exact ⟨L, h1, ⟨fun e => by simp at e, by simp, by simp, fun b m => .inl (h2 b m)⟩, by simp⟩
  | row k =>
    simp only [avT] at h
    split at h
    · rename_i e m xs d' hk
      obtain ⟨hm, cs, L1, o1, o2, o3, o5⟩ := hI.deep hk
      obtain ⟨A, cap, L0, s1, s2, s3, s4, s5⟩ := Sl.row o1
      have hrc : RC w (.sl e m xs) v (L0 ++ L1) := ⟨A, cap, cs, L0, L1, by rw [hx.1, s1], s2, s3, rfl, hm, s4, o2⟩
      split at h
      · rename_i hd0
        simp only [Option.some.injEq, Prod.mk.injEq] at h
        obtain ⟨rfl, rfl, rfl⟩ := h
        refine ⟨L0 ++ L1, hrc, ⟨fun e => by simp at e, by simp, by simp, fun b m => .inl ?_⟩, by simp⟩
        rcases o5 with ⟨q, _⟩ | ⟨q, _⟩ | ⟨_, _, _, q⟩
        · omega
        · omega
        · rcases List.mem_append.1 m with m | m
          · exact q b (s5.subset m)
          · exact o3 b m
      · rename_i hd0
        simp only [Option.some.injEq, Prod.mk.injEq] at h
        obtain ⟨rfl, rfl, rfl⟩ := h
        have hO : g.O k = (g.val k).ownBlock.toList := by
          rcases o5 with ⟨_, q, _⟩ | ⟨_, q, _⟩ | ⟨q, _⟩
          · exact q
          · exact q
          · exact absurd q hd0
        refine ⟨L0 ++ L1, hrc, ⟨fun hd => ?_, ?_, by omega, fun b m => ?_⟩, fun q mq => by simp at mq; subst mq; exact hu⟩
        · rcases o5 with ⟨_, _, o5⟩ | ⟨o5, _⟩ | ⟨o5, _⟩
          · simp only [Gh.F, List.flatMap_cons, List.flatMap_nil, List.append_nil, hO, o5]
            exact List.Sublist.append s5 (List.Sublist.refl _)
          · omega
          · omega
        · rcases o5 with ⟨o5, _⟩ | ⟨o5, _⟩ | ⟨o5, _⟩ <;> omega
        · rcases List.mem_append.1 m with m | m
          · exact .inr ⟨k, by simp, by rw [hO]; exact s5.subset m⟩
          · exact .inl (o3 b m)
    · simp at h
  | nil e m =>
    simp only [avT] at h
    split at h
    · rename_i hm
      simp only [Option.some.injEq, Prod.mk.injEq] at h
      obtain ⟨rfl, rfl, rfl⟩ := h
      refine ⟨[], ⟨none, 0, [], [], [], hx, by simp, Nat.zero_le _, rfl, hm, Sl.zero, rfl, rfl⟩, FP.nil, by simp⟩
    · simp at h
  | n x => simp [avT] at h
  | dead => simp [avT] at h
theorem avTs_ok [NW] (hI : HI W g st.ob w) : ∀ {xs : List AV} {cts : List CT} {ks : List Nat} {d : Nat} {vs : List Value}, avTs st xs = some (cts, ks, d) → All2 (AVR g w) xs vs → avsU U xs → ∃ L, RCs w cts vs L ∧ FP g ks d L ∧ ∀ k ∈ ks, U k
  | [], _, _, _, [], h, _, _ => by
    simp only [avTs, Option.some.injEq, Prod.mk.injEq] at h
    obtain ⟨rfl, rfl, rfl⟩ := h
    exact ⟨[], ⟨rfl, rfl⟩, FP.nil, by simp⟩
  | [], _, _, _, _ :: _, _, h, _ => h.elim
  | _ :: _, _, _, _, [], _, h, _ => h.elim
  | x :: r, cts, ks, d, v :: vs, h, hr, hu => by
    simp only [avTs] at h
    obtain ⟨⟨c1, k1, d1⟩, h1, h⟩ := Option.bind_eq_some_iff.1 h
    obtain ⟨⟨c2, k2, d2⟩, h2, h⟩ := Option.map_eq_some_iff.1 h
    simp only [Prod.mk.injEq] at h
    obtain ⟨rfl, rfl, rfl⟩ := h
    obtain ⟨L1, a1, a2, a3⟩ := avT_ok hI h1 hr.1 (hu x (by simp))
    obtain ⟨L2, b1, b2, b3⟩ := avTs_ok hI h2 hr.2 (fun y m => hu y (by simp [m]))
    exact ⟨L1 ++ L2, ⟨v, vs, L1, L2, rfl, rfl, a1, b1⟩, a2.append b2, fun k m => (List.mem_append.1 m).elim (a3 k) (b3 k)⟩
theorem elems_ok [NW] (hI : HI W g st.ob w) {m : Nat} : ∀ {xs : List SV} {es : List (List CT)} {ks : List Nat} {d : Nat} {vs : List Value}, elemsS st m xs = some (es, ks, d) → All2 (fun s v => SVR g w s v ∧ svU U s) xs vs →
    ∃ (cs : List (List Value)) (L : List Nat), All2 (fun (c : List Value) (v : Value) => v.cells = c.toArray ∧ c.length = m ∧ ∀ u ∈ c, u.oneCell' = true) cs vs ∧ REs w m es cs.flatten L ∧ FP g ks d L ∧ ∀ k ∈ ks, U k
  | [], _, _, _, [], h, _ => by
    simp only [elemsS, Option.some.injEq, Prod.mk.injEq] at h
    obtain ⟨rfl, rfl, rfl⟩ := h
    exact ⟨[], [], trivial, ⟨rfl, rfl⟩, FP.nil, by simp⟩
  | [], _, _, _, _ :: _, _, h => h.elim
  | _ :: _, _, _, _, [], _, h => h.elim
  | s :: r, es, ks, d, v :: vs, h, ⟨⟨hs, hsu⟩, hr⟩ => by
    cases s with
    | p ag us =>
      simp only [elemsS] at h
      split at h
      · rename_i hl
        obtain ⟨⟨c1, k1, d1⟩, h1, h⟩ := Option.bind_eq_some_iff.1 h
        obtain ⟨⟨c2, k2, d2⟩, h2, h⟩ := Option.map_eq_some_iff.1 h
        simp only [Prod.mk.injEq] at h
        obtain ⟨rfl, rfl, rfl⟩ := h
        obtain ⟨us', p1, p2⟩ := PVR.cells hs
        obtain ⟨L1, a1, a2, a3⟩ := avTs_ok hI h1 p2 hsu
        obtain ⟨cs, L2, b1, b2, b3, b4⟩ := elems_ok hI h2 hr
        have hl' : us'.length = m := by rw [← p2.len]; exact hl
        exact ⟨us' :: cs, L1 ++ L2, ⟨⟨p1, hl', AVRs.one p2⟩, b1⟩, ⟨us', cs.flatten, L1, L2, by simp, rfl, ⟨a1, hl'⟩, b2⟩, a2.append b3, fun k mk => (List.mem_append.1 mk).elim (a3 k) (b4 k)⟩
      · simp at h
    | _ => simp [elemsS] at h
/-- filling a row place by place -/
theorem fill_seq [NW] {m : Nat} : ∀ (cs : List (List Value)) (vs : List Value) (i : Nat) (pre base : List Value), All2 (fun (c : List Value) (v : Value) => v.cells = c.toArray ∧ c.length = m ∧ ∀ u ∈ c, u.oneCell' = true) cs vs → pre.length = i * m → base.length = vs.length * m →
    Instr.fill (fun i => some (i * m, m)) (pre ++ base).toArray ((List.range' i vs.length).zip vs) = some (pre ++ cs.flatten).toArray
  | [], [], i, pre, base, _, _, hb => by
    have : base = [] := List.eq_nil_of_length_eq_zero (by simpa using hb)
    subst this
    simp [Instr.fill]
  | [], _ :: _, _, _, _, h, _, _ => h.elim
  | _ :: _, [], _, _, _, h, _, _ => h.elim
  | c :: cs, v :: vs, i, pre, base, ⟨⟨h1, h2, _⟩, h⟩, hp, hb => by
    have hb' : base.length = m + vs.length * m := by rw [hb]; simp [Nat.add_mul]; omega
    have hcs : v.cells.size = m := by simp [h1, h2]
    simp only [List.length_cons, List.range'_succ, List.zip_cons_cons, Instr.fill]
    rw [if_neg (by simp [hcs]; omega), fold_cells (i * m) v c h1 _ (by simp; omega)]
    have e : splice (pre ++ base).toArray.toList (i * m) c = (pre ++ c) ++ base.drop m := by
      unfold splice
      simp only [← hp]
      rw [List.take_left', List.drop_append, List.drop_of_length_le (by omega)]
      · simp [h2]
      · rfl
    rw [e, fill_seq cs vs (i + 1) (pre ++ c) (base.drop m) h (by simp [hp, h2, Nat.add_mul]) (by simp; omega)]
    simp
theorem newRow_ok [NW] (hI : HI W g st.ob w) (hU : StU U st) (hkey : ¬ U key) {e m : Nat} (hm : 0 < m) {xs : List (List CT)} {ks : List Nat} {d : Nat} {L : List Nat} {cs : List Value} {v : Value} (hown : w'.ownsV 0 e m v xs.length cs) (hv : v.ownBlock = some w.heap.size)
    (hb : Below w.heap.size w w') (hpl : ∃ cur e, w'.heap[w.heap.size]? = some (.cells cur e (0, 0))) (hr : REs w m xs cs L) (hf : FP g ks d L) (hks : ∀ k ∈ ks, U k) (hrow : ∀ k ∈ ks, ∃ e m xs d, st.ob k = .row e m xs d) (hnd : ks.Nodup) {s : Sem Next} (hrun : s.run P w = .ok (.value v) w') :
    Fin P W U key st g w s (.p false [.row key], goneAll ks ++ [(key, .row e m xs d)]) := by
  have hlt := hr.lt
  have hF := hI.nodupF hnd
  have hDmem : ∀ b ∈ (if d = 2 then L else []), b ∈ L ∧ d = 2 := fun b mb => by
    split at mb
    · rename_i hd; exact ⟨mb, hd⟩
    · simp at mb
  obtain ⟨h1, h2⟩ := hI.turn (key := key) (U := U) (w' := w') (v := v) (O := [w.heap.size]) (D := if d = 2 then L else []) (o := .row e m xs d) hU.ob hkey ks hks
    (hI.below.trans hb) hb.size (fun b hb' _ => hb.block b hb') (by simp) (fun b mb => by
      obtain ⟨m1, m2⟩ := hDmem b mb
      exact .inl (mem_F ((hf.1 m2).subset m1)))
    (by
      simp only [List.singleton_append, List.nodup_cons]
      refine ⟨fun mb => ?_, ?_⟩
      · have := hlt _ (hDmem _ mb).1; omega
      · split
        · rename_i hd; exact hF.sublist (hf.1 hd)
        · simp)
    (fun b mb => by
      simp only [List.singleton_append, List.mem_cons] at mb
      rcases mb with rfl | mb
      · exact ⟨.inl hI.below.size, hpl⟩
      · obtain ⟨m1, m2⟩ := hDmem b mb
        obtain ⟨k, k1, mk⟩ := mem_F ((hf.1 m2).subset m1)
        obtain ⟨p1, p2⟩ := hI.plain k b mk
        obtain ⟨_, _, _, _, hob⟩ := hrow k k1
        rw [hob] at p2
        exact ⟨p1, p2.keep (hb.block b (hlt b m1))⟩)
    (fun _ => ⟨hm, cs, L, by simpa [Gh.turn, upd] using hown, hr.keep fun b mb => hb.block b (hlt b mb), by
      have q1 := hf.2.1
      have q2 := hf.2.2.1
      by_cases hd : d = 2
      · exact .inl ⟨hd, by simp [Gh.turn, upd, hv], by simp [Gh.turn, hd]⟩
      · refine .inr (.inl ⟨by omega, by simp [Gh.turn, upd, hv], by simp [Gh.turn, hd], fun b mb ho => ?_⟩)
        have hb' := hlt b mb
        rcases turn_own ho with mo | ⟨k, k1, _, mk⟩ | hz
        · simp at mo; omega
        · rcases hf.2.2.2 b mb with hn | ⟨q, q1, q2⟩
          · exact hn (.inl ⟨k, mk⟩)
          · exact hI.apart k q (fun e => k1 (e ▸ q1)) b (by simp [mk]) (by simp [q2])
        · rcases hf.2.2.2 b mb with hn | ⟨q, q1, q2⟩
          · exact hn (.inr hz)
          · exact hI.nz (k := q) (by simp [q2]) hz⟩)
  have hwf := wf_turn (key := key) (o := .row e m xs d) hU ks trivial
  refine ⟨_, _, _, .inl hrun, h1, ⟨_, rfl, ⟨by simp [Gh.turn, upd], ?_⟩⟩, h2, fun y my => by simp at my; subst my; exact key_in, hwf.1, hwf.2⟩
  obtain ⟨A, cap, hv'⟩ := own_val hown
  simp [hv', Value.oneCell']
theorem updAll_frz (st : St) : ∀ (ks : List Nat) (ob : Nat → Ob) (k : Nat), updAll ob (frzAll st ks) k = if k ∈ ks then frzOb (st.ob k) else ob k
  | [], ob, k => by simp [frzAll, updAll]
  | j :: r, ob, k => by
    show updAll (upd ob j (frzOb (st.ob j))) (frzAll st r) k = _
    rw [updAll_frz st r]
    by_cases h : k ∈ r
    · simp [h]
    · by_cases hj : k = j
      · subst hj; simp [h, upd]
      · simp [h, hj, upd]
theorem updAll_turnF [NW] (st : St) (ks : List Nat) (ob : Nat → Ob) (key : Nat) (o : Ob) (k : Nat) : updAll ob (frzAll st ks ++ [(key, o)]) k = if k = key then o else if k ∈ ks then frzOb (st.ob k) else ob k := by
  rw [updAll_append]
  show upd (updAll ob (frzAll st ks)) key o k = _
  by_cases h : k = key
  · simp [upd, h]
  · simp only [upd, h, if_false]; exact updAll_frz st ks ob k
theorem avT_keys {x : AV} {ct : CT} {ks : List Nat} {d : Nat} (h : avT st x = some (ct, ks, d)) : ∀ k ∈ ks, ∃ e m xs d, st.ob k = .row e m xs d := by
  intro k mk
  cases x with
  | c y => cases y <;> simp only [avT, Option.some.injEq, Prod.mk.injEq] at h <;> (rw [← h.2.1] at mk; simp at mk)
  | nil e m =>
    simp only [avT] at h
    split at h <;> simp only [Option.some.injEq, Prod.mk.injEq, reduceCtorEq] at h
    rw [← h.2.1] at mk; simp at mk
  | row j =>
    simp only [avT] at h
    split at h
    · rename_i e m xs d' hj
      split at h <;> simp only [Option.some.injEq, Prod.mk.injEq] at h
      · rw [← h.2.1] at mk; simp at mk
      · rw [← h.2.1] at mk; simp at mk; subst mk; exact ⟨_, _, _, _, hj⟩
    · simp at h
  | n x => simp [avT] at h
  | dead => simp [avT] at h
theorem avTs_keys [NW] : ∀ {xs : List AV} {cts : List CT} {ks : List Nat} {d : Nat}, avTs st xs = some (cts, ks, d) → ∀ k ∈ ks, ∃ e m xs d, st.ob k = .row e m xs d
  | [], _, _, _, h, k, mk => by simp only [avTs, Option.some.injEq, Prod.mk.injEq] at h; rw [← h.2.1] at mk; simp at mk
  | x :: r, _, _, _, h, k, mk => by
    simp only [avTs] at h
    obtain ⟨⟨c1, k1, d1⟩, h1, h⟩ := Option.bind_eq_some_iff.1 h
    obtain ⟨⟨c2, k2, d2⟩, h2, h⟩ := Option.map_eq_some_iff.1 h
    simp only [Prod.mk.injEq] at h
    rw [← h.2.1] at mk
    rcases List.mem_append.1 mk with mk | mk
    · exact avT_keys h1 k mk
    · exact avTs_keys h2 k mk
theorem elemsS_keys [NW] {m : Nat} : ∀ {xs : List SV} {es : List (List CT)} {ks : List Nat} {d : Nat}, elemsS st m xs = some (es, ks, d) → ∀ k ∈ ks, ∃ e m xs d, st.ob k = .row e m xs d
  | [], _, _, _, h, k, mk => by simp only [elemsS, Option.some.injEq, Prod.mk.injEq] at h; rw [← h.2.1] at mk; simp at mk
  | x :: r, _, _, _, h, k, mk => by
    cases x with
    | p a cs =>
      simp only [elemsS] at h
      split at h
      · obtain ⟨⟨c1, k1, d1⟩, h1, h⟩ := Option.bind_eq_some_iff.1 h
        obtain ⟨⟨c2, k2, d2⟩, h2, h⟩ := Option.map_eq_some_iff.1 h
        simp only [Prod.mk.injEq] at h
        rw [← h.2.1] at mk
        rcases List.mem_append.1 mk with mk | mk
        · exact avTs_keys h1 k mk
        · exact elemsS_keys h2 k mk
      · simp at h
    | _ => simp [elemsS] at h
/-- the same, where the rows that the new one takes up are still read -/
theorem newRow_frz [NW] (hI : HI W g st.ob w) (hU : StU U st) (hkey : ¬ U key) {e m : Nat} (hm : 0 < m) {xs : List (List CT)} {ks : List Nat} {d : Nat} {L : List Nat} {cs : List Value} {v : Value} (hown : w'.ownsV 0 e m v xs.length cs) (hv : v.ownBlock = some w.heap.size)
    (hb : Below w.heap.size w w') (hpl : ∃ cur e, w'.heap[w.heap.size]? = some (.cells cur e (0, 0))) (hr : REs w m xs cs L) (hf : FP g ks d L) (hks : ∀ k ∈ ks, U k) (hrow : ∀ k ∈ ks, ∃ e m xs d, st.ob k = .row e m xs d) (hnd : ks.Nodup) {s : Sem Next} (hrun : s.run P w = .ok (.value v) w') :
    Fin P W U key st g w s (.p false [.row key], frzAll st ks ++ [(key, .row e m xs d)]) := by
  have hlt := hr.lt
  have hF := hI.nodupF hnd
  have hDmem : ∀ b ∈ (if d = 2 then L else []), b ∈ L ∧ d = 2 := fun b mb => by
    split at mb
    · rename_i hd; exact ⟨mb, hd⟩
    · simp at mb
  obtain ⟨h1, h2⟩ := hI.turn (key := key) (U := U) (w' := w') (v := v) (O := [w.heap.size]) (D := if d = 2 then L else []) (o := .row e m xs d) hU.ob hkey ks hks
    (hI.below.trans hb) hb.size (fun b hb' _ => hb.block b hb') (by simp) (fun b mb => by
      obtain ⟨m1, m2⟩ := hDmem b mb
      exact .inl (mem_F ((hf.1 m2).subset m1)))
    (by
      simp only [List.singleton_append, List.nodup_cons]
      refine ⟨fun mb => ?_, ?_⟩
      · have := hlt _ (hDmem _ mb).1; omega
      · split
        · rename_i hd; exact hF.sublist (hf.1 hd)
        · simp)
    (fun b mb => by
      simp only [List.singleton_append, List.mem_cons] at mb
      rcases mb with rfl | mb
      · exact ⟨.inl hI.below.size, hpl⟩
      · obtain ⟨m1, m2⟩ := hDmem b mb
        obtain ⟨k, k1, mk⟩ := mem_F ((hf.1 m2).subset m1)
        obtain ⟨p1, p2⟩ := hI.plain k b mk
        obtain ⟨_, _, _, _, hob⟩ := hrow k k1
        rw [hob] at p2
        exact ⟨p1, p2.keep (hb.block b (hlt b m1))⟩)
    (fun _ => ⟨hm, cs, L, by simpa [Gh.turn, upd] using hown, hr.keep fun b mb => hb.block b (hlt b mb), by
      have q1 := hf.2.1
      have q2 := hf.2.2.1
      by_cases hd : d = 2
      · exact .inl ⟨hd, by simp [Gh.turn, upd, hv], by simp [Gh.turn, hd]⟩
      · refine .inr (.inl ⟨by omega, by simp [Gh.turn, upd, hv], by simp [Gh.turn, hd], fun b mb ho => ?_⟩)
        have hb' := hlt b mb
        rcases turn_own ho with mo | ⟨k, k1, _, mk⟩ | hz
        · simp at mo; omega
        · rcases hf.2.2.2 b mb with hn | ⟨q, q1, q2⟩
          · exact hn (.inl ⟨k, mk⟩)
          · exact hI.apart k q (fun e => k1 (e ▸ q1)) b (by simp [mk]) (by simp [q2])
        · rcases hf.2.2.2 b mb with hn | ⟨q, q1, q2⟩
          · exact hn (.inr hz)
          · exact hI.nz (k := q) (by simp [q2]) hz⟩)
  have hkk : ∀ k ∈ ks, k ≠ key := fun k mk e => hkey (e ▸ hks k mk)
  have h1' : HI W (g.turn ks key v [w.heap.size] (if d = 2 then L else [])) (updAll st.ob (frzAll st ks ++ [(key, .row e m xs d)])) w' := by
    refine ⟨h1.below, fun k => ?_, h1.nodup, h1.apart, fun k b mb => ?_, h1.gz, h1.zx, h1.nw⟩
    rotate_left
    · have hp := h1.plain k b mb
      rw [updAll_turn] at hp
      rw [updAll_turnF]
      by_cases hk : k = key
      · rw [if_pos hk] at hp ⊢; exact hp
      · rw [if_neg hk] at hp ⊢
        by_cases hm' : k ∈ ks
        · rw [if_pos hm'] at hp ⊢
          obtain ⟨e2, m2, xs2, d2, hob⟩ := hrow k hm'
          rw [hob]
          exact hp
        · rw [if_neg hm'] at hp ⊢; exact hp
    have ho := h1.obs k
    rw [updAll_turn] at ho
    rw [updAll_turnF]
    by_cases hk : k = key
    · rw [if_pos hk] at ho ⊢; exact ho
    · rw [if_neg hk] at ho ⊢
      by_cases hm' : k ∈ ks
      · rw [if_pos hm'] at ho ⊢
        obtain ⟨e2, m2, xs2, d2, hob⟩ := hrow k hm'
        obtain ⟨p1, cs2, L2, p2, p3, p4, p5⟩ := hI.deep hob
        rw [hob]
        have hval : (g.turn ks key v [w.heap.size] (if d = 2 then L else [])).val k = g.val k := by simp [Gh.turn, upd, hk]
        have hl2 := p3.lt
        have hl1 := own_lt p2
        refine ⟨p1, cs2, L2, by rw [hval]; exact ownsV_keep p2 fun b mb => hb.block b (hl1 b mb), p3.keep fun b mb => hb.block b (hl2 b mb), .inr (.inr ⟨rfl, ho.1, ho.2, fun b mb hob' => ?_⟩)⟩
        rw [hval] at mb
        have hbl : b < w.heap.size := by
          rcases List.mem_append.1 mb with m1 | m1
          · exact hl1 b m1
          · exact hl2 b m1
        rcases turn_own hob' with mo | ⟨j, j1, _, mj⟩ | hz
        · simp at mo; omega
        · rcases List.mem_append.1 mb with m1 | m1
          · rcases p5 with ⟨_, q1, _⟩ | ⟨_, q1, _⟩ | ⟨_, _, _, q⟩
            · exact hI.apart j k (fun e => j1 (e ▸ hm')) b (by simp [mj]) (by simp [q1, m1])
            · exact hI.apart j k (fun e => j1 (e ▸ hm')) b (by simp [mj]) (by simp [q1, m1])
            · exact q b m1 (.inl ⟨j, mj⟩)
          · exact p4 b m1 (.inl ⟨j, mj⟩)
        · rcases List.mem_append.1 mb with m1 | m1
          · rcases p5 with ⟨_, q1, _⟩ | ⟨_, q1, _⟩ | ⟨_, _, _, q⟩
            · exact hI.nz (k := k) (by simp [q1, m1]) hz
            · exact hI.nz (k := k) (by simp [q1, m1]) hz
            · exact q b m1 (.inr hz)
          · exact p4 b m1 (.inr hz)
      · rw [if_neg hm'] at ho ⊢; exact ho
  have hfz : ∀ k, obU U (frzOb (st.ob k)) := fun k => by
    have := hU.ob k
    cases hk : st.ob k <;> simp only [frzOb] <;> first | trivial | (rw [hk] at this; exact this)
  refine ⟨_, _, _, .inl hrun, h1', ⟨_, rfl, ⟨by simp [Gh.turn, upd], ?_⟩⟩, h2, fun y my => by simp at my; subst my; exact key_in, fun k => ?_, fun k hk => ?_⟩
  · obtain ⟨A, cap, hv'⟩ := own_val hown
    simp [hv', Value.oneCell']
  · rw [updAll_turnF]
    split
    · trivial
    · split
      · exact (hfz k).mono fun _ => .inl
      · exact (hU.ob k).mono fun _ => .inl
  · rw [updAll_turnF, if_neg (fun e => hk (.inr (by omega)))]
    have e := hU.gone k fun h => hk (.inl h)
    split
    · rw [e]; rfl
    · exact e
end
end
section
open Go.RowKit
section
variable {P : Program} {W : Base} {U : Nat → Prop} {key : Nat} {st : St} {g : Gh} {w w' : World} {a : Act} {tt : Nat → Option TI}
theorem bsl_ok [NW] (htt : ∀ t i, tt t = some i → TOk P t i) (hI : HI W g st.ob w) (hS : ∀ t, SVR g w (st.sl t) (a.tmps.getD t undef)) (hU : StU U st) (hkey : ¬ U key) {t len e m bytes : Nat} {z : List AV} (hti : tt t = some (.slice e m bytes z)) {parts : Array (Nat × Operand)} {xs : List (List CT)} {ks : List Nat} {d : Nat}
    (h : elemsS st m (parts.toList.map fun p => st.ev tt e p.2) = some (xs, ks, d)) (hr : parts.toList.map (·.1) = List.range len) (hl : len * m ≤ 16777216) (hnd : ks.Nodup) {s : Sem Next} (hs : s = (do pure (.value (← Instr.buildSlice t len (parts.map fun (i, x) => (i, a.eval x)))))) :
    Fin P W U key st g w s (.p false [.row key], frzAll st ks ++ [(key, .row e m xs d)]) := by
  obtain ⟨hu, hm, _, ⟨ie, zv, hie, hsz, hby, hz, hzc, hzl⟩, _⟩ := htt t _ hti
  have hall : All2 (fun s v => SVR g w s v ∧ svU U s) (parts.toList.map fun p => st.ev tt e p.2) (parts.toList.map fun p => a.eval p.2) := All2.of_map _ _ fun p _ => ev_ok htt hS hU e p.2
  obtain ⟨cs, L, c1, c2, c3, c4⟩ := elems_ok hI h hall
  have hlen : parts.toList.length = len := by have := congrArg List.length hr; simpa using this
  have hcl : cs.length = len := by rw [c1.len]; simpa using hlen
  have hxl : xs.length = len := by
    have h1 := c2.len
    have h2 : cs.flatten.length = len * m := by
      have : ∀ (cs : List (List Value)) (vs : List Value), All2 (fun (c : List Value) (v : Value) => v.cells = c.toArray ∧ c.length = m ∧ ∀ u ∈ c, u.oneCell' = true) cs vs → cs.flatten.length = cs.length * m := by
        intro cs
        induction cs with
        | nil => intro _ _; simp
        | cons c cs ih =>
          intro vs hh
          cases vs with
          | nil => exact hh.elim
          | cons v vs => simp [ih vs hh.2, hh.1.2.1, Nat.add_mul]; omega
      rw [this cs _ c1, hcl]
    rw [h2] at h1
    exact (Nat.eq_of_mul_eq_mul_right hm h1).symm
  have hparts : (parts.map fun x => match x with | (i, x) => (i, a.eval x)).toList = (List.range' 0 (parts.toList.map fun p => a.eval p.2).length).zip (parts.toList.map fun p => a.eval p.2) := by
    have e1 : (parts.map fun x => match x with | (i, x) => (i, a.eval x)).toList = (parts.toList.map (·.1)).zip (parts.toList.map fun p => a.eval p.2) := by
      rw [List.zip_map']; simp
    rw [e1, hr, List.range_eq_range']
    simp [hlen]
  have hrun : (Instr.buildSlice t len (parts.map fun (i, x) => (i, a.eval x))).run P w = .ok (.slice (some ⟨w.heap.size, 0, none⟩) len len) (w.alloc (.cells cs.flatten.toArray e)) := by
    have hcells : ∀ base : List Value, base.length = len * m → Instr.fill (fun i => some (i * m, m)) base.toArray (parts.map fun x => match x with | (i, x) => (i, a.eval x)).toList = some cs.flatten.toArray := fun base hb => by
      rw [hparts]
      have := fill_seq cs (parts.toList.map fun p => a.eval p.2) 0 [] base c1 (by simp) (by simpa [hlen] using hb)
      simpa using this
    by_cases h0 : len = 0
    · subst h0
      have hcs0 : cs = [] := List.eq_nil_of_length_eq_zero hcl
      subst hcs0
      have hp0 : parts = #[] := by
        have : parts.toList = [] := List.eq_nil_of_length_eq_zero hlen
        simpa using this
      subst hp0
      simp [Instr.buildSlice, run_und hu, run_size hie, Instr.fill, newRow, Array.range_zero']
    · have hpos : ¬ len * ie.size = 0 := by
        rw [hsz]; intro e; rcases Nat.mul_eq_zero.1 e with e | e <;> omega
      refine run_buildSlice w t e len _ _ ie zv hu hie hz (by rw [hsz]; omega) hpos ?_
      rw [hsz]
      have hb := hcells ((Array.range (len * m)).map (zv.cells[· % zv.cells.size]!)).toList (by simp)
      rw [Array.toArray_toList] at hb
      exact hb
  have hown := ownsV_of <| World.ownsRow_lit (base := 0) (e := e) (size := m) w cs.flatten.toArray len (Nat.zero_le _) (by unfold maxLen; have := Nat.le_mul_of_pos_right len hm; omega) (by
    have h1 := c2.len
    rw [hxl] at h1
    simpa using h1)
  refine newRow_frz hI hU hkey hm (v := .slice (some ⟨w.heap.size, 0, none⟩) len len) (cs := cs.flatten) (w' := w.alloc (.cells cs.flatten.toArray e)) (by rw [hxl]; simpa using hown) rfl ((Below.refl _ _).alloc (Nat.le_refl _) _) ⟨_, _, heap_alloc_new w _⟩ c2 c3 c4 (elemsS_keys h) hnd ?_
  subst hs
  simp only [Sem.run_bind, hrun, Result.andThen_ok, Sem.run_pure]
theorem REs_replicate {m : Nat} {ze : List CT} {zc : List Value} (h : RCs w ze zc []) (hl : zc.length = m) : ∀ n : Nat, REs w m (List.replicate n ze) (List.replicate n zc).flatten []
  | 0 => by simp [REs]
  | n + 1 => by
    rw [List.replicate_succ, List.replicate_succ, List.flatten_cons]
    exact ⟨zc, _, [], [], rfl, rfl, ⟨h, hl⟩, REs_replicate h hl n⟩
theorem zCTs_ok [NW] : ∀ {z : List AV} {zs : List Value} {ze : List CT}, zCTs z = some ze → All2 (fun a v => constB a v = true) z zs → RCs w ze zs []
  | [], [], ze, h, _ => by simp [zCTs] at h; subst h; exact ⟨rfl, rfl⟩
  | [], _ :: _, _, _, h => h.elim
  | _ :: _, [], _, _, h => h.elim
  | .c x :: z, v :: zs, ze, h, hr => by
    simp only [zCTs] at h
    obtain ⟨b, h1, rfl⟩ := Option.map_eq_some_iff.1 h
    have hx := const_AVR (g := ⟨fun _ => undef, fun _ => [], fun _ => [], fun _ => False⟩) (w := w) hr.1
    obtain ⟨L, hL, _⟩ := hx
    have hL0 : L = [] := by
      have := hr.1
      cases x with
      | int k n => exact hL.2
      | bool b => exact hL.2
      | str s => exact hL.2.1
      | _ => simp [constB] at this
    subst hL0
    exact ⟨v, zs, [], [], rfl, rfl, hL, zCTs_ok h1 hr.2⟩
  | .nil e m :: z, v :: zs, ze, h, hr => by
    simp only [zCTs] at h
    split at h
    · rename_i hm
      obtain ⟨b, h1, rfl⟩ := Option.map_eq_some_iff.1 h
      have hv : v = .slice none 0 0 := const_AVR (g := ⟨fun _ => undef, fun _ => [], fun _ => [], fun _ => False⟩) (w := w) hr.1
      subst hv
      exact ⟨_, zs, [], [], rfl, rfl, ⟨none, 0, [], [], [], rfl, by simp, Nat.zero_le _, rfl, hm, Sl.zero, rfl, rfl⟩, zCTs_ok h1 hr.2⟩
    · simp at h
  | .row k :: z, v :: zs, ze, h, _ => by simp [zCTs] at h
  | .n x :: z, v :: zs, ze, h, _ => by simp [zCTs] at h
  | .dead :: z, v :: zs, ze, h, _ => by simp [zCTs] at h
theorem made_flat (z : Array Value) (m : Nat) (hz : z.size = m) (hm : 0 < m) : ∀ n : Nat, (madeCells z (n * m)).toList = (List.replicate n z.toList).flatten
  | 0 => by simp [madeCells]
  | n + 1 => by
    have ih := made_flat z m hz hm n
    rw [List.replicate_succ', List.flatten_append, ← ih]
    simp only [madeCells, Array.toList_map, Array.toList_range, Nat.add_mul, Nat.one_mul, List.range_add, List.map_append, List.map_map, List.flatten_cons, List.flatten_nil, List.append_nil]
    congr 1
    apply List.ext_getElem?
    intro j
    by_cases hj : j < m
    · simp only [List.getElem?_map, List.getElem?_range hj, Option.map_some, Function.comp]
      have e : (n * m + j) % z.size = j := by
        rw [hz, Nat.add_comm, Nat.add_mul_mod_self_right, Nat.mod_eq_of_lt hj]
      have hjz : j < z.size := by omega
      simp [e, hjz]
    · have h1 : z.size ≤ j := by omega
      simp [hj, h1]
theorem make_ok [NW] (htt : ∀ t i, tt t = some i → TOk P t i) (hI : HI W g st.ob w) (hU : StU U st) (hkey : ¬ U key) {t e m bytes : Nat} {z : List AV} (hti : tt t = some (.slice e m bytes z)) {n : Nat} {ze : List CT} (hz : zCTs z = some ze) (hn : n ≤ 1073741824) {s : Sem Next}
    (hs : s = (do pure (.value (← Instr.makeSlice t (.int .i64 n) (.int .i64 n))))) : Fin P W U key st g w s (.p false [.row key], [(key, .row e m (List.replicate n ze) 2)]) := by
  obtain ⟨hu, hm, hby0, ⟨ie, zv, hie, hsz, hby, hzz, hzc, hzl⟩, _⟩ := htt t _ hti
  have hb' : ie.bytes * n ≤ 281474976710656 := by
    have := Nat.mul_le_mul (show ie.bytes ≤ 131072 by omega) hn
    omega
  obtain ⟨w', r1, r2, r3⟩ := run_make_full (P := P) w 0 t e ie zv m hu hie hzz hsz .i64 .i64 n hb' (by unfold maxLen; omega) (Nat.zero_le _)
  have hzs : zv.cells.size = m := by rw [← hzl, hzc.len]; simp
  rw [made_flat zv.cells m hzs hm n] at r2
  have hre := REs_replicate (zCTs_ok (w := w) hz hzc) (by simpa using hzs) n
  have hb : Below w.heap.size w w' := (Below.refl _ _).grown r3 (Nat.le_refl _) (by simp)
  have hpl : ∃ cur e, w'.heap[w.heap.size]? = some (.cells cur e (0, 0)) := by
    rcases r2.2 with ⟨h', _⟩ | ⟨g', cap', cur, h', _, hg, _⟩
    · simp at h'
    · simp at h'
      rw [← h'.1] at hg
      exact ⟨cur, e, hg⟩
  have := newRow_ok (ks := []) (d := 2) hI hU hkey hm (xs := List.replicate n ze) (by simpa using ownsV_of r2) rfl hb hpl hre FP.nil (by simp) (by simp) (by simp) (s := s) (P := P) (by subst hs; simp only [Sem.run_bind, r1, Result.andThen_ok, Sem.run_pure])
  simpa [goneAll] using this
theorem append_none [NW] {t e : TypeId} {ty : TypeId} {ie : TypeInfo} (hu : P.underlying t = some (.slice e)) (hie : P.info? e = some ie) (A B : Option Addr) (n c c' : Nat) (hnc : n ≤ c) :
    (Builtin.append_ #[t, t] ty #[.slice A n c, .slice B 0 c']).run P w = .ok (.slice A n c) w := by
  cases A <;> cases B <;> simp [Builtin.append_, run_und hu, run_size hie, Builtin.lenOf, Builtin.firstCells, loadCells, loadCellsFrom, storeCells, hnc]
theorem RCs_flat : ∀ {e : List CT} {cs : List Value} {L : List Nat}, RCs w e cs L → e.all CT.flat = true → L = []
  | [], _, _, h, _ => h.2
  | x :: r, _, _, ⟨v, cs', L1, L2, rfl, rfl, h1, h2⟩, hf => by
    simp only [List.all_cons, Bool.and_eq_true] at hf
    have e1 : L1 = [] := by
      cases x with
      | int k n => exact h1.2
      | bool b => exact h1.2
      | str s => exact h1.2.1
      | _ => simp [CT.flat] at hf
    rw [e1, RCs_flat h2 hf.2]; rfl
theorem REs_flat [NW] {m : Nat} : ∀ {xs : List (List CT)} {cs : List Value} {L : List Nat}, REs w m xs cs L → flatEs xs = true → L = []
  | [], _, _, h, _ => h.2
  | x :: r, _, _, ⟨c1, c2, L1, L2, rfl, rfl, h1, h2⟩, hf => by
    simp only [flatEs, List.all_cons, Bool.and_eq_true] at hf
    rw [RCs_flat h1.1 hf.1, REs_flat h2 hf.2]; rfl
theorem REs.append {m : Nat} : ∀ {xs ys : List (List CT)} {us vs : List Value} {L M : List Nat}, REs w m xs us L → REs w m ys vs M → REs w m (xs ++ ys) (us ++ vs) (L ++ M)
  | [], _, _, _, _, _, h, h' => by obtain ⟨rfl, rfl⟩ := h; simpa using h'
  | _ :: _, _, _, _, _, _, ⟨c1, c2, L1, L2, rfl, rfl, h3, h4⟩, h' => ⟨c1, c2 ++ _, L1, L2 ++ _, by simp, by simp, h3, h4.append h'⟩
theorem REs.one {m : Nat} : ∀ {xs : List (List CT)} {cs : List Value} {L : List Nat}, REs w m xs cs L → ∀ u ∈ cs, u.oneCell' = true
  | [], _, _, h => by simp [h.1]
  | _ :: _, _, _, ⟨c1, c2, L1, L2, rfl, rfl, h3, h4⟩ => fun u mu => by
    rcases List.mem_append.1 mu with mu | mu
    · exact h3.1.one u mu
    · exact h4.one u mu
theorem dmin_two {a b : Nat} (h : dmin a b = 2) (ha : a ≤ 2) (hb : b ≤ 2) : a = 2 ∧ b = 2 := by unfold dmin at h; split at h <;> omega
theorem flatD_two {fl : Bool} {xs : List (List CT)} (h : flatD fl xs = 2) : flatEs xs = true := by unfold flatD at h; split at h <;> simp_all
theorem flatD_le (fl : Bool) (xs : List (List CT)) : flatD fl xs ≤ 2 := by unfold flatD; split <;> omega
theorem flatD_pos (fl : Bool) (xs : List (List CT)) : 0 < flatD fl xs := by unfold flatD; split <;> omega
/-- what is appended to -/
theorem HI.plainD [NW] {ob : Nat → Ob} (h : HI W g ob w) {k b : Nat} (m : b ∈ g.D k) : (W.heap.size ≤ b ∨ W.x b) ∧ ∃ cur e, w.heap[b]? = some (.cells cur e (0, 0)) := by
  have h1 := h.plain k b (by simp [m])
  have h2 := h.obs k
  cases hk : ob k with
  | map kk vk kv =>
    rw [hk] at h2
    obtain ⟨_, _, _, _, _, h3, _⟩ := h2
    rw [h3] at m; simp at m
  | _ => rw [hk] at h1; exact h1
theorem dst_ok [NW] (hI : HI W g st.ob w) {x : SV} {v : Value} {e m : Nat} {xs : List (List CT)} {ks : List Nat} {d : Nat} (h : appDst st x = some (xs, ks, d)) (hok : dstOk st e m x = true) (hx : SVR g w x v) (hu : svU U x) :
    ∃ cs L, w.ownsV 0 e m v xs.length cs ∧ REs w m xs cs L ∧ (∀ b ∈ L, ¬ g.own b) ∧ (d = 2 → L = ks.flatMap g.D) ∧ v.ownBlock.toList = ks.flatMap g.O ∧ (∀ k ∈ ks, U k) ∧ d ≤ 2 ∧ 0 < d := by
  unfold appDst at h
  split at h
  · simp only [Option.some.injEq, Prod.mk.injEq] at h
    obtain ⟨rfl, rfl, rfl⟩ := h
    have := nil_of hx
    subst this
    exact ⟨[], [], ownsV_nil _ _ _ _, ⟨rfl, rfl⟩, by simp, by simp, by simp [Value.ownBlock], by simp, by simp, by simp⟩
  · rename_i k
    split at h
    · rename_i e' m' xs' d' hk
      split at h
      · simp at h
      rename_i hd0
      simp only [Option.some.injEq, Prod.mk.injEq] at h
      obtain ⟨rfl, rfl, rfl⟩ := h
      simp only [dstOk, hk, Bool.and_eq_true, beq_iff_eq] at hok
      obtain ⟨rfl, rfl⟩ := hok
      have := row_of hx
      subst this
      obtain ⟨hm, cs, L, o1, o2, o3, o4, o5⟩ := hI.deepO hk hd0
      refine ⟨cs, L, o1, o2, o3, fun hd => ?_, by simp [o4], fun q mq => by simp at mq; subst mq; exact hu (.row q) (by simp), ?_, by omega⟩
      · rcases o5 with ⟨_, o5⟩ | ⟨o5, _⟩
        · simp [o5]
        · omega
      · rcases o5 with ⟨o5, _⟩ | ⟨o5, _⟩ <;> omega
    · simp at h
  · simp at h
/-- what is appended -/
theorem src_ok [NW] (hI : HI W g st.ob w) {x : SV} {v : Value} {m : Nat} {xs : List (List CT)} {ks : List Nat} {d : Nat} {fl : Bool} (h : appSrc st fl x = some (xs, ks, d)) (hok : srcOk st m x = true) (hx : SVR g w x v) (hu : svU U x) :
    ∃ A c cs L, v = .slice A xs.length c ∧ REs w m xs cs L ∧ (0 < xs.length → ∃ b off, A = some ⟨b, off, none⟩ ∧ CellsAt w b off cs) ∧ (∀ b ∈ L, ¬ g.own b) ∧ (d = 2 → L.Sublist (ks.flatMap g.D)) ∧ (∀ k ∈ ks, U k) ∧ d ≤ 2 ∧ 0 < d := by
  unfold appSrc at h
  split at h
  · simp only [Option.some.injEq, Prod.mk.injEq] at h
    obtain ⟨rfl, rfl, rfl⟩ := h
    simp only [srcOk, beq_iff_eq] at hok
    subst hok
    obtain ⟨A, cap, cs, L0, L1, rfl, h2, h3, h5, h6, h7, ho⟩ := slice_of hx
    refine ⟨A, cap, cs, L1, rfl, h7, fun hp => ?_, fun b mb => ho b (by simp [mb]), fun hd => by rw [REs_flat h7 (flatD_two hd)]; simp, by simp, flatD_le _ _, flatD_pos _ _⟩
    obtain ⟨b, off, h8, _, h9⟩ := h6.at_ hp
    exact ⟨b, off, h8, h9⟩
  · simp only [Option.some.injEq, Prod.mk.injEq] at h
    obtain ⟨rfl, rfl, rfl⟩ := h
    have := nil_of hx
    subst this
    exact ⟨none, 0, [], [], rfl, ⟨rfl, rfl⟩, by simp, by simp, by simp, by simp, by simp, by simp⟩
  · rename_i k
    split at h
    · rename_i e' m' xs' d' hk
      simp only [srcOk, hk, beq_iff_eq] at hok
      subst hok
      have := row_of hx
      subst this
      obtain ⟨hm, cs, L, o1, o2, o3, o5⟩ := hI.deep hk
      obtain ⟨A, cap, L0, s1, s2, s3, s4, s5⟩ := Sl.row o1
      have hat : 0 < xs'.length → ∃ b off, A = some ⟨b, off, none⟩ ∧ CellsAt w b off cs := fun hp => by
        obtain ⟨b, off, h8, _, h9⟩ := s4.at_ hp
        exact ⟨b, off, h8, h9⟩
      split at h
      · simp only [Option.some.injEq, Prod.mk.injEq] at h
        obtain ⟨rfl, rfl, rfl⟩ := h
        exact ⟨A, cap, cs, L, s1, o2, hat, o3, fun hd => by rw [REs_flat o2 (flatD_two hd)]; simp, by simp, flatD_le _ _, flatD_pos _ _⟩
      · rename_i hd0
        simp only [Option.some.injEq, Prod.mk.injEq] at h
        obtain ⟨rfl, rfl, rfl⟩ := h
        refine ⟨A, cap, cs, L, s1, o2, hat, o3, fun hd => ?_, fun q mq => by simp at mq; subst mq; exact hu (.row q) (by simp), ?_, by omega⟩
        · rcases o5 with ⟨_, _, o5⟩ | ⟨o5, _⟩ | ⟨o5, _⟩
          · simp [o5]
          · omega
          · omega
        · rcases o5 with ⟨o5, _⟩ | ⟨o5, _⟩ | ⟨o5, _⟩ <;> omega
    · simp at h
  · simp at h
theorem HI.nodupD [NW] {ob : Nat → Ob} (hI : HI W g ob w) : ∀ {ks : List Nat}, ks.Nodup → (ks.flatMap g.D).Nodup
  | [], _ => by simp
  | k :: ks, h => by
    simp only [List.flatMap_cons, List.nodup_append]
    rw [List.nodup_cons] at h
    refine ⟨(List.nodup_append.1 (hI.nodup k)).2.1, hI.nodupD h.2, fun x hx y hy e => ?_⟩
    subst e
    obtain ⟨j, hj, hy⟩ := List.mem_flatMap.1 hy
    exact hI.apart k j (fun e => h.1 (e ▸ hj)) x (by simp [hx]) (by simp [hy])
theorem app_ok [NW] (htt : ∀ t i, tt t = some i → TOk P t i) (hI : HI W g st.ob w) (hU : StU U st) (hkey : ¬ U key) {t : Nat} {s x : SV} {vs vx : Value} {r : SV × List (Nat × Ob)} (h : appV st key (tt t) s x = some r) (hs : SVR g w s vs ∧ svU U s) (hx : SVR g w x vx ∧ svU U x) {ty : TypeId} {q : Sem Next}
    (hq : q = (do pure (.value (← Builtin.append_ #[t, t] ty #[vs, vx])))) : Fin P W U key st g w q r := by
  unfold appV at h
  split at h
  · rename_i e m bytes z hti
    obtain ⟨⟨xs, k1, d1⟩, h1, h⟩ := Option.bind_eq_some_iff.1 h
    obtain ⟨⟨ys, k2, d2⟩, h2, h⟩ := Option.bind_eq_some_iff.1 h
    split at h
    · rename_i hc
      simp only [Option.some.injEq] at h
      subst h
      obtain ⟨hc1, hc2, hc3, hc4⟩ := hc
      simp only at hc3 hc4
      obtain ⟨hu, hm, hby0, ⟨ie, zv, hie, hsz, hby, hzz, hzc, hzl⟩, _⟩ := htt t _ hti
      obtain ⟨cs, Lx, a1, a2, a3, a4, a5, a6, a7, a8⟩ := dst_ok hI h1 hc1 hs.1 hs.2
      obtain ⟨A, c, news, Ly, b0, b1, b2, b3, b4, b5, b7, b8⟩ := src_ok hI h2 hc2 hx.1 hx.2
      subst b0
      obtain ⟨A1, cap1, hv1, hv2, hv3⟩ := ownV_slice a1
      have hnl : news.length = ys.length * m := b1.len
      -- what the append gives
      obtain ⟨v', w', r1, r2, r3, r4⟩ : ∃ v' w', (Builtin.append_ #[t, t] ty #[vs, .slice A ys.length c]).run P w = .ok v' w' ∧ w'.ownsV 0 e m v' (xs.length + ys.length) (cs ++ news) ∧ w.grownBy w' vs.ownBlock ∧ (v'.ownBlock = vs.ownBlock ∨ v'.ownBlock = some w.heap.size) := by
        by_cases hy : ys.length = 0
        · have hn0 : news = [] := List.eq_nil_of_length_eq_zero (by rw [hnl, hy]; simp)
          refine ⟨vs, w, ?_, by rw [hn0, hy, List.append_nil]; exact a1, World.grownBy.refl _ _, .inl rfl⟩
          rw [hv1, hy]
          exact append_none hu hie A1 A _ _ _ hv2
        · obtain ⟨b, off, rfl, hcell⟩ := b2 (by omega)
          have hbytes : (xs.length + ys.length) * bytes ≤ 140737488355328 := by
            have := Nat.mul_le_mul hc4 hby0
            omega
          obtain ⟨v', w', q1, q2, q3, q5⟩ := run_append_ownV (P := P) w 0 t ty e ie zv m bytes hu hie hzz hsz hby (by rw [← hzl, hzc.len]; simp) hm vs xs.length cs a1 ⟨b, off, none⟩ ys.length c news hnl
            (fun j u hj => by rw [add_lit0]; exact hcell j u hj) b1.one (by unfold maxLen; omega) hbytes (Nat.zero_le _)
          exact ⟨v', w', q1, q2, q3, q5⟩
      have hnot : ∀ b, ¬ g.own b → some b ≠ vs.ownBlock := fun b hn e => hn (by
        have : b ∈ vs.ownBlock.toList := by simp [← e]
        rw [a5] at this
        obtain ⟨k, _, mk⟩ := List.mem_flatMap.1 this
        exact .inl ⟨k, mk⟩)
      have hkeepL : ∀ b ∈ Lx ++ Ly, w'.heap[b]? = w.heap[b]? := fun b mb => by
        rcases List.mem_append.1 mb with mb | mb
        · exact r3.block b (a2.lt b mb) (hnot b (a3 b mb))
        · exact r3.block b (b1.lt b mb) (hnot b (b3 b mb))
      have hREs : REs w' m (xs ++ ys) (cs ++ news) (Lx ++ Ly) := (a2.keep fun b mb => hkeepL b (by simp [mb])).append (b1.keep fun b mb => hkeepL b (by simp [mb]))
      have hOwn : ∀ b ∈ v'.ownBlock.toList, b ∈ k1.flatMap g.O ∨ b = w.heap.size := fun b mb => by
        rcases r4 with r4 | r4
        · rw [r4, a5] at mb; exact .inl mb
        · rw [r4] at mb; simp at mb; exact .inr mb
      have hDsub : (dmin d1 d2) = 2 → (Lx ++ Ly).Sublist ((k1 ++ k2).flatMap g.D) := fun hd => by
        have hd := dmin_two hd a7 b7
        rw [List.flatMap_append]
        exact List.Sublist.append (by rw [a4 hd.1]; exact List.Sublist.refl _) (b4 hd.2)
      have hDm : ∀ b ∈ (if (dmin d1 d2) = 2 then Lx ++ Ly else []), b ∈ Lx ++ Ly ∧ (dmin d1 d2) = 2 := fun b mb => by
        split at mb
        · rename_i hd; exact ⟨mb, hd⟩
        · simp at mb
      have hbel : Bel W w' := by
        refine ⟨r3.os.trans hI.below.os, r3.tape.trans hI.below.tape, r3.output.trans hI.below.output, Nat.le_trans hI.below.size r3.size, fun b hb hx' => ?_⟩
        rw [r3.block b (Nat.lt_of_lt_of_le hb hI.below.size) fun e => ?_]
        · exact hI.below.block b hb hx'
        · have : b ∈ vs.ownBlock.toList := by simp [← e]
          rw [a5] at this
          obtain ⟨k, _, mk⟩ := List.mem_flatMap.1 this
          rcases (hI.plain k b (by simp [mk])).1 with h | h
          · omega
          · exact hx' h
      obtain ⟨t1, t2⟩ := hI.turn (key := key) (U := U) (w' := w') (v := v') (O := v'.ownBlock.toList) (D := if (dmin d1 d2) = 2 then Lx ++ Ly else []) (o := .row e m (xs ++ ys) (dmin d1 d2)) hU.ob hkey (k1 ++ k2)
        (fun k mk => (List.mem_append.1 mk).elim (a6 k) (b5 k)) hbel r3.size (fun b hb hn => r3.block b hb fun e => by
          have : b ∈ vs.ownBlock.toList := by simp [← e]
          rw [a5] at this
          obtain ⟨k, hk, mk⟩ := List.mem_flatMap.1 this
          exact hn k (by simp [hk]) mk)
        (fun b mb => by
          rcases hOwn b mb with mb | rfl
          · obtain ⟨k, hk, mk⟩ := List.mem_flatMap.1 mb
            exact .inl ⟨k, by simp [hk], mk⟩
          · exact .inr (Nat.le_refl _))
        (fun b mb => by
          obtain ⟨m1, m2⟩ := hDm b mb
          obtain ⟨k, hk, mk⟩ := List.mem_flatMap.1 ((hDsub m2).subset m1)
          exact .inl ⟨k, hk, by simp [mk]⟩)
        (by
          rw [List.nodup_append]
          refine ⟨by cases v'.ownBlock <;> simp, ?_, fun b mb b' mb' e => ?_⟩
          · split
            · rename_i hd; exact (hI.nodupD hc3).sublist (hDsub hd)
            · simp
          · subst e
            obtain ⟨m1, m2⟩ := hDm b mb'
            rcases hOwn b mb with mb | rfl
            · obtain ⟨k, _, mk⟩ := List.mem_flatMap.1 mb
              rcases List.mem_append.1 m1 with m1 | m1
              · exact a3 b m1 (.inl ⟨k, mk⟩)
              · exact b3 b m1 (.inl ⟨k, mk⟩)
            · rcases List.mem_append.1 m1 with m1 | m1
              · have := a2.lt _ m1; omega
              · have := b1.lt _ m1; omega)
        (fun b mb => by
          rcases List.mem_append.1 mb with mb | mb
          · have hpl : W.heap.size ≤ b ∨ W.x b := by
              rcases hOwn b mb with mb | rfl
              · obtain ⟨k, _, mk⟩ := List.mem_flatMap.1 mb
                exact (hI.plain k b (by simp [mk])).1
              · exact .inl hI.below.size
            rcases r2.2 with ⟨h', _⟩ | ⟨g', o', cap', cur, h', hg0, hg, _⟩
            · simp [h', Value.ownBlock] at mb
            · simp [h', Value.ownBlock] at mb
              subst mb
              exact ⟨hpl, cur, e, hg⟩
          · obtain ⟨m1, m2⟩ := hDm b mb
            obtain ⟨k, hk, mk⟩ := List.mem_flatMap.1 ((hDsub m2).subset m1)
            obtain ⟨p1, cur, e', p2⟩ := hI.plainD mk
            exact ⟨p1, cur, e', by rw [hkeepL b m1]; exact p2⟩)
        (fun hown => ⟨hm, cs ++ news, Lx ++ Ly, by simpa [Gh.turn, upd] using r2, hREs, by
          by_cases hd : dmin d1 d2 = 2
          · exact .inl ⟨hd, by simp [Gh.turn, upd], by simp [Gh.turn, hd]⟩
          · have hd1 : dmin d1 d2 = 1 := by unfold dmin at hd ⊢; split <;> simp_all <;> omega
            refine .inr (.inl ⟨hd1, by simp [Gh.turn, upd], by simp [Gh.turn, hd], fun b mb ho => ?_⟩)
            have hnb : ¬ g.own b := by
              rcases List.mem_append.1 mb with m1 | m1
              · exact a3 b m1
              · exact b3 b m1
            rcases turn_own ho with mo | ⟨k, _, _, mk⟩ | hz
            · rcases hOwn b mo with mo | rfl
              · obtain ⟨k, _, mk⟩ := List.mem_flatMap.1 mo
                exact hnb (.inl ⟨k, mk⟩)
              · rcases List.mem_append.1 mb with m1 | m1
                · have := a2.lt _ m1; omega
                · have := b1.lt _ m1; omega
            · exact hnb (.inl ⟨k, mk⟩)
            · exact hnb (.inr hz)⟩)
      have hwf := wf_turn (key := key) (o := .row e m (xs ++ ys) (dmin d1 d2)) hU (k1 ++ k2) trivial
      refine ⟨_, v', w', .inl (by subst hq; simp only [Sem.run_bind, r1, Result.andThen_ok, Sem.run_pure]), t1, ⟨_, rfl, ⟨by simp [Gh.turn, upd], ?_⟩⟩, t2, fun y my => by simp at my; subst my; exact key_in, hwf.1, hwf.2⟩
      obtain ⟨A2, cap2, hv'⟩ := own_val r2
      simp [hv', Value.oneCell']
    · simp at h
  · simp at h
end
end
section
open Go.RowKit
section
variable {P : Program} {W : Base} {U : Nat → Prop} {key : Nat} {st : St} {g : Gh} {w w' : World} {a : Act} {tt : Nat → Option TI}
theorem RCs.dropS : ∀ {x : List CT} {c : List Value} {L : List Nat} (n : Nat), RCs w x c L → ∃ L', RCs w (x.drop n) (c.drop n) L' ∧ L'.Sublist L
  | x, c, L, 0, h => ⟨L, by simpa using h, List.Sublist.refl _⟩
  | [], c, L, n + 1, h => ⟨[], by obtain ⟨rfl, rfl⟩ := h; simp [RCs], List.nil_sublist _⟩
  | x :: r, _, _, n + 1, ⟨v, cs', L1, L2, rfl, rfl, h1, h2⟩ => by
    obtain ⟨L', a1, a2⟩ := RCs.dropS n h2
    exact ⟨L', by simpa using a1, a2.trans (List.sublist_append_right L1 L2)⟩
/-- both parts at once, so that the blocks stay one behind the other -/
theorem RCs.spliceS [NW] {x : List CT} {c : List Value} {L : List Nat} {ys : List CT} {us : List Value} (h : RCs w x c L) (h' : RCs w ys us []) : ∀ (off : Nat), ∃ L', RCs w (splice x off ys) (splice c off us) L' ∧ L'.Sublist L := by
  have hl : us.length = ys.length := h'.len
  intro off
  induction off generalizing x c L with
  | zero =>
    obtain ⟨L', a1, a2⟩ := h.dropS (0 + ys.length)
    refine ⟨[] ++ L', ?_, a2⟩
    simp only [splice, List.take_zero, List.nil_append, hl]
    exact h'.append a1
  | succ off ih =>
    cases x with
    | nil =>
      obtain ⟨rfl, rfl⟩ := h
      refine ⟨[], ?_, List.nil_sublist _⟩
      simpa [splice] using h'
    | cons x r =>
      obtain ⟨v, cs', L1, L2, rfl, rfl, h1, h2⟩ := h
      obtain ⟨L', a1, a2⟩ := ih h2
      refine ⟨L1 ++ L', ?_, List.Sublist.append (List.Sublist.refl _) a2⟩
      have e1 : splice (x :: r) (off + 1) ys = x :: splice r off ys := by
        simp only [splice, List.take_succ_cons, List.cons_append]
        rw [show off + 1 + ys.length = (off + ys.length) + 1 by omega, List.drop_succ_cons]
      have e2 : splice (v :: cs') (off + 1) us = v :: splice cs' off us := by
        simp only [splice, List.take_succ_cons, List.cons_append]
        rw [show off + 1 + us.length = (off + us.length) + 1 by omega, List.drop_succ_cons]
      rw [e1, e2]
      exact ⟨v, _, L1, L', rfl, rfl, h1, a1⟩
theorem splice_app_right {α : Type} (c1 c2 : List α) (off : Nat) (us : List α) : splice (c1 ++ c2) (c1.length + off) us = c1 ++ splice c2 off us := by
  simp only [splice]
  rw [List.take_length_add_append, Nat.add_assoc, List.drop_append, List.drop_of_length_le (Nat.le_add_right _ _), Nat.add_sub_cancel_left]
  simp
theorem splice_app_left {α : Type} (c1 c2 : List α) (off : Nat) (us : List α) (h : off + us.length ≤ c1.length) : splice (c1 ++ c2) off us = splice c1 off us ++ c2 := by
  simp only [splice]
  rw [List.take_append_of_le_length (by omega), List.drop_append_of_le_length h]
  simp
theorem REs.set [NW] {m : Nat} {ys : List CT} {us : List Value} (h' : RCs w ys us []) : ∀ {xs : List (List CT)} {cs : List Value} {L : List Nat} {i off : Nat} {x : List CT}, REs w m xs cs L → xs[i]? = some x → off + us.length ≤ m →
    ∃ L', REs w m (xs.set i (splice x off ys)) (splice cs (i * m + off) us) L' ∧ L'.Sublist L
  | [], _, _, _, _, _, _, hx, _ => by simp at hx
  | e :: r, _, _, 0, off, x, ⟨c1, c2, L1, L2, rfl, rfl, h3, h4⟩, hx, ho => by
    simp at hx; subst hx
    obtain ⟨L', a1, a2⟩ := h3.1.spliceS h' off
    refine ⟨L' ++ L2, ?_, List.Sublist.append a2 (List.Sublist.refl _)⟩
    rw [Nat.zero_mul, Nat.zero_add, splice_app_left _ _ _ _ (by rw [h3.2]; exact ho)]
    exact ⟨splice c1 off us, c2, L', L2, rfl, rfl, ⟨a1, by rw [splice_len _ _ _ (by rw [h3.2]; exact ho)]; exact h3.2⟩, h4⟩
  | e :: r, _, _, i + 1, off, x, ⟨c1, c2, L1, L2, rfl, rfl, h3, h4⟩, hx, ho => by
    obtain ⟨L', a1, a2⟩ := REs.set h' h4 (i := i) (off := off) (x := x) (by simpa using hx) ho
    refine ⟨L1 ++ L', ?_, List.Sublist.append (List.Sublist.refl _) a2⟩
    have e : (i + 1) * m + off = c1.length + (i * m + off) := by rw [h3.2, Nat.add_mul]; omega
    rw [e, splice_app_right]
    exact ⟨c1, _, L1, L', rfl, rfl, h3, a1⟩
theorem flatCs_ok [NW] : ∀ {vs : List AV} {ys : List CT} {us : List Value}, flatCs vs = some ys → All2 (AVR g w) vs us → RCs w ys us []
  | [], _, [], h, _ => by simp [flatCs] at h; subst h; exact ⟨rfl, rfl⟩
  | [], _, _ :: _, _, h => h.elim
  | _ :: _, _, [], _, h => h.elim
  | x :: vs, ys, u :: us, h, hr => by
    simp only [flatCs] at h
    obtain ⟨y, h1, h⟩ := Option.bind_eq_some_iff.1 h
    obtain ⟨b, h2, rfl⟩ := Option.map_eq_some_iff.1 h
    have hx : x = .c y ∧ y.flat = true := by
      cases x with
      | c z => cases z <;> simp [flatC] at h1 <;> subst h1 <;> exact ⟨rfl, rfl⟩
      | _ => simp [flatC] at h1
    obtain ⟨rfl, hf⟩ := hx
    obtain ⟨L, hL, _⟩ := hr.1
    have hL0 : L = [] := by
      cases y with
      | int k n => exact hL.2
      | bool b => exact hL.2
      | str s => exact hL.2.1
      | _ => simp [CT.flat] at hf
    subst hL0
    exact ⟨u, us, [], [], rfl, rfl, hL, flatCs_ok h2 hr.2⟩
/-- a store into a row -/
theorem store_rp [NW] (htt : ∀ t i, tt t = some i → TOk P t i) (hI : HI W g st.ob w) (hU : StU U st) {t k m i off e : Nat} {xs : List (List CT)} {d : Nat} {x ys : List CT} {vs : List AV} {va vv : Value} {ag : Bool} (hk : st.ob k = .row e m xs d) (hd0 : ¬ d = 0) (hx : xs[i]? = some x) (hys : flatCs vs = some ys) (hl : vs.length = sizeTI (tt t)) (ho : off + vs.length ≤ m)
    (ha : SVR g w (.rp k m i off) va) (hv : SVR g w (.p ag vs) vv) (hpos : 0 < vs.length) {s : Sem Next} (hs : s = (do Instr.storeAt t va vv; pure .skip)) : Fin P W U key st g w s (.und, [(k, .row e m (xs.set i (splice x off ys)) d)]) := by
  obtain ⟨b, o, n, c, h1, rfl⟩ := ha
  obtain ⟨hm, cs, L, o1, o2, o3, o4, o5⟩ := hI.deepO hk hd0
  obtain ⟨us, c1, c2⟩ := PVR.cells hv
  have hxl := c2.len
  have hi : i < xs.length := (List.getElem?_eq_some_iff.1 hx).1
  rcases o1.2 with ⟨_, hn⟩ | ⟨b', o', cap, cur, hv', hbW, hg, hnc, hcm, hcs, htk⟩
  · omega
  have hbb : b = b' ∧ o = o' := by rw [hv'] at h1; simp at h1; exact ⟨h1.1.1.symm, h1.1.2.symm⟩
  obtain ⟨rfl, rfl⟩ := hbb
  have hlt : i * m + off + us.length ≤ xs.length * m := by
    have := Nat.mul_le_mul_right m (show i + 1 ≤ xs.length by omega)
    rw [Nat.add_mul] at this
    omega
  have hcap : xs.length * m ≤ cap * m := Nat.mul_le_mul_right m hnc
  have hsize : (sizeOf t).run P w = .ok us.length w := by
    rw [← hxl, hl]
    unfold sizeTI at hl ⊢
    cases hti : tt t with
    | none => rw [hti] at hl; simp at hl; simp [hl] at hpos
    | some i =>
      cases i with
      | atom z => obtain ⟨d, zv, i, _, _, h3, _, h4, _⟩ := htt t _ hti; rw [run_size h3, h4]
      | strct fs n z => obtain ⟨_, i, _, _, h3, h4, _⟩ := htt t _ hti; rw [run_size h3, h4]
      | slice e m b z => obtain ⟨_, _, _, _, j, h3, h4, _⟩ := htt t _ hti; rw [run_size h3, h4]
      | _ => rw [hti] at hl; simp at hl; simp [hl] at hpos
  have hst := run_storeCells_at (P := P) b (o + (i * m + off)) e us 0 cur w hg (by omega) (AVRs.one c2)
  obtain ⟨r1, r2, r3, r4, r5, r6⟩ := setRow_ok b cur (splice cur.toList (o + (i * m + off)) us).toArray e hg
  have hrun : s.run P w = .ok .skip (w.setRow b (splice cur.toList (o + (i * m + off)) us).toArray) := by
    subst hs
    have e : (cur.toList.take (o + (i * m + off) + 0) ++ us ++ cur.toList.drop (o + (i * m + off) + 0 + us.length)).toArray = (splice cur.toList (o + (i * m + off)) us).toArray := by simp [splice]
    rw [e] at hst
    simp [Instr.storeAt, Instr.sureAddr, storeVar, c1, hsize, hst]
  have hOk : g.O k = [b] := by rw [o4, hv']; rfl
  have hmv : ∀ b', b' < w.heap.size → ¬ g.own b' → (w.setRow b (splice cur.toList (o + (i * m + off)) us).toArray).heap[b']? = w.heap[b']? := fun b' _ hn => r2 b' fun e => hn (.inl ⟨k, by simp [hOk, e]⟩)
  obtain ⟨L', q1, q2⟩ := o2.set (flatCs_ok hys c2) hx (show off + us.length ≤ m by omega)
  have hown' : (w.setRow b (splice cur.toList (o + (i * m + off)) us).toArray).ownsV 0 e m (g.val k) (xs.set i (splice x off ys)).length (splice cs (i * m + off) us) := by
    have hcl : cs.length = xs.length * m := o1.1
    refine ⟨by rw [splice_len _ _ _ (by omega), hcl]; simp, .inr ⟨b, o, cap, _, by simpa using hv', hbW, r1, by simpa using hnc, hcm, by rw [List.size_toArray, splice_len _ _ _ (show o + (i * m + off) + us.length ≤ cur.toList.length by simp; omega)]; simpa using hcs, ?_⟩⟩
    have h0 : ((splice cur.toList (o + (i * m + off)) us).toArray.toList).drop o = splice (cur.toList.drop o) (i * m + off) us := by
      show (splice cur.toList (o + (i * m + off)) us).drop o = _
      unfold splice
      have hto : o ≤ (cur.toList.take (o + (i * m + off))).length := by simp; omega
      rw [List.drop_append_of_le_length hto, List.drop_take, Nat.add_sub_cancel_left, List.drop_drop, Nat.add_assoc]
    rw [h0]
    have : cur.toList.drop o = cs ++ (cur.toList.drop o).drop (xs.length * m) := by rw [← htk]; exact (List.take_append_drop _ _).symm
    rw [this, splice_app_left _ _ _ _ (by omega)]
    have e2 : (xs.set i (splice x off ys)).length * m = (splice cs (i * m + off) us).length := by rw [splice_len _ _ _ (by omega), hcl]; simp
    rw [e2]
    exact List.take_left' rfl
  have hltL := o2.lt
  have hREs' : REs (w.setRow b (splice cur.toList (o + (i * m + off)) us).toArray) m (xs.set i (splice x off ys)) (splice cs (i * m + off) us) L' := q1.keep fun b' mb => hmv b' (hltL b' (q2.subset mb)) (o3 b' (q2.subset mb))
  let g' : Gh := ⟨g.val, g.O, upd g.D k (if d = 2 then L' else []), g.Z⟩
  have hgo : ∀ b', g'.own b' ↔ g.own b' := fun b' => Iff.rfl
  have hgr : (∀ b' ∈ g'.D k, b' ∈ g.D k) → OGrow g g' w.heap.size := fun hs => .of (fun b' h => .inl h) fun j b' mb => by
    by_cases hj : j = k
    · subst hj; exact .inl (.inr ⟨j, hs b' mb⟩)
    · exact .inl (.inr ⟨j, by simpa [g', upd_ne _ _ hj] using mb⟩)
  have hDsub : ∀ b' ∈ g'.D k, b' ∈ g.D k := fun b' mb => by
    simp only [g', upd_same] at mb
    split at mb
    · rename_i hd
      rcases o5 with ⟨_, o5⟩ | ⟨o5, _⟩
      · rw [o5]; exact q2.subset mb
      · omega
    · simp at mb
  refine ⟨g', undef, _, .inr ⟨hrun, rfl⟩, ?_, rfl, fun x u hx hu => hu.move hx (fun _ _ => rfl) hmv (hgr hDsub) (by omega), trivial, fun q => ?_, fun q hq => ?_⟩
  · refine hI.step (U := U) (fun q => q = k) ?_ rfl (fun b' _ hn => r2 b' fun e => hn k rfl (by simp [hOk, e])) (fun q hq => ⟨upd_ne _ _ hq, rfl, rfl, upd_ne _ _ hq⟩) hU.ob (fun _ _ => rfl) (hgr hDsub) (fun q hq => ?_)
    · exact ⟨r4.trans hI.below.os, r5.trans hI.below.tape, r6.trans hI.below.output, by have := hI.below.size; omega, fun q hq hx' => by rw [r2 q (fun e => by subst e; rcases (hI.plain k q (by simp [hOk])).1 with h | h; omega; exact hx' h)]; exact hI.below.block q hq hx'⟩
    · subst hq
      have hmem : ∀ b' ∈ g'.O q ++ g'.D q, b' ∈ g.O q ++ g.D q := fun b' mb => by
        rcases List.mem_append.1 mb with mb | mb
        · exact List.mem_append.2 (.inl mb)
        · exact List.mem_append.2 (.inr (hDsub b' mb))
      refine ⟨?_, ?_, fun b' mb => ?_, fun j hj b' mb mj => ?_⟩
      · simp only [updAll, upd_same]
        refine ⟨hm, _, L', hown', hREs', ?_⟩
        rcases o5 with ⟨o5, _⟩ | ⟨o5, _⟩
        · exact .inl ⟨o5, o4, by simp [g', upd, o5]⟩
        · exact .inr (.inl ⟨o5, o4, by simp [g', upd, o5], fun b' mb => o3 b' (q2.subset mb)⟩)
      · have hn := hI.nodup q
        refine hn.sublist (List.Sublist.append (List.Sublist.refl _) ?_)
        simp only [g', upd_same]
        split
        · rename_i hd
          rcases o5 with ⟨_, o5⟩ | ⟨o5, _⟩
          · rw [o5]; exact q2
          · omega
        · exact List.nil_sublist _
      · have hp := hI.plain q b' (hmem b' mb)
        rw [hk] at hp
        obtain ⟨p1, cur', e', p2⟩ := hp
        refine ⟨p1, ?_⟩
        simp only [updAll, upd_same]
        show ∃ cur e, _ = _
        by_cases hb' : b' = b
        · subst hb'; exact ⟨_, _, r1⟩
        · exact ⟨cur', e', by rw [r2 b' hb']; exact p2⟩
      · have mj' : b' ∈ g.O j ++ g.D j := by
          rcases List.mem_append.1 mj with mj | mj
          · exact List.mem_append.2 (.inl mj)
          · simp only [g', upd_ne _ _ (fun e : j = q => hj e.symm)] at mj; exact List.mem_append.2 (.inr mj)
        exact hI.apart q j hj b' (hmem b' mb) mj'
  · simp only [updAll, upd]
    split
    · trivial
    · exact (hU.ob q).mono fun _ => .inl
  · simp only [updAll, upd]
    split
    · rename_i e; subst e
      exact absurd (hU.gone q fun h => hq (.inl h)) (by simp [hk])
    · exact hU.gone q fun h => hq (.inl h)
end
end
section
open Go.RowKit
section
variable {P : Program} {W : Base} {U : Nat → Prop} {key : Nat} {st : St} {g : Gh} {w w' : World} {a : Act} {tt : Nat → Option TI}
theorem upd_id [NW] {α : Type} (f : Nat → α) (k : Nat) : upd f k (f k) = f := by
  funext j; by_cases hj : j = k
  · subst hj; rw [upd_same]
  · rw [upd_ne _ _ hj]
theorem AVR.less [NW] {g1 : Gh} {x : AV} {v : Value} (h : AVR g w x v) (hv : g1.val = g.val) (ho : OLess g1 g) : AVR g1 w x v := by
  cases x with
  | c x => obtain ⟨L, h1, h2⟩ := h; exact ⟨L, h1, fun b mb hb => h2 b mb (ho.own b hb)⟩
  | n x => exact NR.move h (fun _ _ _ => rfl) (ho.grow _)
  | row k => exact ⟨h.1.trans (by rw [hv]), h.2⟩
  | nil e m => exact h
  | dead => exact h
theorem SVR.less [NW] {g1 : Gh} {x : SV} {v : Value} (h : SVR g w x v) (hv : g1.val = g.val) (ho : OLess g1 g) : SVR g1 w x v :=
  h.move (U := fun _ => True) (by cases x <;> try trivial
                                  · intro y my; cases y <;> trivial
                                  · intro y my z mz; cases z <;> trivial) (fun k _ => by rw [hv]) (fun _ _ _ => rfl) (ho.grow _) (Nat.le_refl _)
/-- rows that are only read from then on -/
theorem frz_one [NW] {ob : Nat → Ob} (hI : HI W g ob w) (k : Nat) : ∃ g1 : Gh, HI W g1 (upd ob k (frzOb (ob k))) w ∧ g1.val = g.val ∧ OLess g1 g ∧ ((∃ e m xs d, ob k = .row e m xs d) → ∀ b ∈ g.O k ++ g.D k, ¬ g1.low b) := by
  cases hk : ob k with
  | gone => exact ⟨g, by rw [show frzOb Ob.gone = ob k from hk.symm, upd_id]; exact hI, rfl, OLess.refl _, by simp⟩
  | box t cs => exact ⟨g, by rw [show frzOb (Ob.box t cs) = ob k from hk.symm, upd_id]; exact hI, rfl, OLess.refl _, by simp⟩
  | map kk vk kv => exact ⟨g, by rw [show frzOb (Ob.map kk vk kv) = ob k from hk.symm, upd_id]; exact hI, rfl, OLess.refl _, by simp⟩
  | row e m xs d =>
    obtain ⟨hm, cs, L, o1, o2, o3, o5⟩ := hI.deep hk
    let g1 : Gh := ⟨g.val, upd g.O k [], upd g.D k [], g.Z⟩
    have hO : ∀ j b, b ∈ g1.O j → j ≠ k ∧ b ∈ g.O j := fun j b mb => by
      by_cases hj : j = k
      · subst hj; simp [g1, upd] at mb
      · exact ⟨hj, by simpa [g1, upd, hj] using mb⟩
    have hD : ∀ j b, b ∈ g1.D j → j ≠ k ∧ b ∈ g.D j := fun j b mb => by
      by_cases hj : j = k
      · subst hj; simp [g1, upd] at mb
      · exact ⟨hj, by simpa [g1, upd, hj] using mb⟩
    have hOD : ∀ j b, b ∈ g1.O j ++ g1.D j → j ≠ k ∧ b ∈ g.O j ++ g.D j := fun j b mb => by
      rcases List.mem_append.1 mb with m1 | m1
      · exact ⟨(hO j b m1).1, by simp [(hO j b m1).2]⟩
      · exact ⟨(hD j b m1).1, by simp [(hD j b m1).2]⟩
    have hown : ∀ b, g1.own b → g.own b := fun b hb => by
      rcases hb with ⟨j, mj⟩ | hz
      · exact .inl ⟨j, (hO j b mj).2⟩
      · exact .inr hz
    have hless : OLess g1 g := .of hown fun j b mb => ⟨j, (hD j b mb).2⟩
    have hnot : ∀ b ∈ (g.val k).ownBlock.toList, ¬ g1.own b := fun b mb hb => by
      rcases o5 with ⟨_, q, _⟩ | ⟨_, q, _⟩ | ⟨_, _, _, q⟩
      · have mk : b ∈ g.O k ++ g.D k := by simp [q, mb]
        rcases hb with ⟨j, mj⟩ | hz
        · exact hI.apart k j (fun e => (hO j b mj).1 e.symm) b mk (by simp [(hO j b mj).2])
        · exact hI.nz mk hz
      · have mk : b ∈ g.O k ++ g.D k := by simp [q, mb]
        rcases hb with ⟨j, mj⟩ | hz
        · exact hI.apart k j (fun e => (hO j b mj).1 e.symm) b mk (by simp [(hO j b mj).2])
        · exact hI.nz mk hz
      · exact q b mb (hown b hb)
    refine ⟨g1, ⟨hI.below, fun j => ?_, fun j => ?_, fun i j hij b mb mj => ?_, fun j b mb => ?_, hI.gz, hI.zx, hI.nw⟩, rfl, hless, fun _ b mb hb => ?_⟩
    rotate_right
    · rcases hb with (⟨j, mj⟩ | hz) | ⟨j, mj⟩
      · exact hI.apart k j (fun e => (hO j b mj).1 e.symm) b mb (by simp [(hO j b mj).2])
      · exact hI.nz mb hz
      · exact hI.apart k j (fun e => (hD j b mj).1 e.symm) b mb (by simp [(hD j b mj).2])
    · by_cases hj : j = k
      · subst hj
        rw [upd_same]
        refine ⟨hm, cs, L, o1, o2, .inr (.inr ⟨rfl, by simp [g1, upd], by simp [g1, upd], fun b mb => ?_⟩)⟩
        rcases List.mem_append.1 mb with m1 | m1
        · exact hnot b m1
        · exact fun hb => o3 b m1 (hown b hb)
      · rw [upd_ne _ _ hj]
        have ho := hI.obs j
        cases hoj : ob j with
        | gone => rw [hoj] at ho; exact ⟨by simpa [g1, upd, hj] using ho.1, by simpa [g1, upd, hj] using ho.2⟩
        | box t ds =>
          rw [hoj] at ho
          obtain ⟨b, vs, h1, h2, h3, h4, h5⟩ := ho
          exact ⟨b, vs, h1, by simpa [g1, upd, hj] using h2, by simpa [g1, upd, hj] using h3, h4, h5.mono fun x u _ hx => AVR.less hx rfl hless⟩
        | map kk vk kv =>
          rw [hoj] at ho
          obtain ⟨b, es, c, h1, h2, h3, h4⟩ := ho
          exact ⟨b, es, c, h1, by simpa [g1, upd, hj] using h2, by simpa [g1, upd, hj] using h3, h4⟩
        | row e' m' xs' d' =>
          rw [hoj] at ho
          obtain ⟨hm', cs', L', p1, p2, p3⟩ := ho
          refine ⟨hm', cs', L', p1, p2, ?_⟩
          have e1 : g1.O j = g.O j := by simp [g1, upd, hj]
          have e2 : g1.D j = g.D j := by simp [g1, upd, hj]
          rw [e1, e2]
          rcases p3 with p3 | ⟨q1, q2, q3, q4⟩ | ⟨q1, q2, q3, q4⟩
          · exact .inl p3
          · exact .inr (.inl ⟨q1, q2, q3, fun b mb hb => q4 b mb (hown b hb)⟩)
          · exact .inr (.inr ⟨q1, q2, q3, fun b mb hb => q4 b mb (hown b hb)⟩)
    · by_cases hj : j = k
      · subst hj; simp [g1, upd]
      · have := hI.nodup j; simpa [g1, upd, hj] using this
    · exact hI.apart i j hij b (hOD i b mb).2 (hOD j b mj).2
    · rw [upd_ne _ _ (hOD j b mb).1]; exact hI.plain j b (hOD j b mb).2
/-- a box that nobody writes to any more -/
theorem box_gone [NW] {ob : Nat → Ob} (hI : HI W g ob w) {k t : Nat} {cs : List AV} (hk : ob k = .box t cs) : ∃ g1 : Gh, HI W g1 (upd ob k .gone) w ∧ g1.val = g.val ∧ OLess g1 g ∧ ∃ b vs, g.val k = .pointer (some ⟨b, 0, none⟩) ∧ ¬ g1.own b ∧ b < w.heap.size ∧ CellsAt w b 0 vs ∧ All2 (AVR g w) cs vs := by
  have ho := hI.obs k
  rw [hk] at ho
  obtain ⟨b, vs, h1, h2, h3, h4, h5⟩ := ho
  let g1 : Gh := ⟨g.val, upd g.O k [], upd g.D k [], g.Z⟩
  have hO : ∀ j x, x ∈ g1.O j ++ g1.D j → j ≠ k ∧ x ∈ g.O j ++ g.D j := fun j x mx => by
    by_cases hj : j = k
    · subst hj; simp [g1, upd] at mx
    · exact ⟨hj, by simpa [g1, upd, hj] using mx⟩
  have hown : ∀ x, g1.own x → g.own x ∧ x ≠ b := fun x hx => by
    rcases hx with ⟨j, mj⟩ | hz
    · have := hO j x (by simp [mj])
      refine ⟨.inl ⟨j, ?_⟩, fun e => ?_⟩
      · have hj := this.1
        simpa [g1, upd, hj] using mj
      · subst e
        exact hI.apart j k this.1 x this.2 (by simp [h2])
    · exact ⟨.inr hz, fun e => by subst e; exact hI.nz (k := k) (by simp [h2]) hz⟩
  have hless : OLess g1 g := .of (fun x hx => (hown x hx).1) fun j b mb => ⟨j, by
    have hj := (hO j b (by simp [mb])).1
    simpa [g1, upd, hj] using mb⟩
  refine ⟨g1, ⟨hI.below, fun j => ?_, fun j => ?_, fun i j hij x mx mj => ?_, fun j x mx => ?_, hI.gz, hI.zx, hI.nw⟩, rfl, hless, b, vs, h1, fun hb => (hown b hb).2 rfl, (Array.getElem?_eq_some_iff.1 h4).1, fun j u hj => ?_, h5⟩
  · by_cases hj : j = k
    · subst hj; rw [upd_same]; exact ⟨by simp [g1, upd], by simp [g1, upd]⟩
    · rw [upd_ne _ _ hj]
      have ho := hI.obs j
      have e1 : g1.O j = g.O j := by simp [g1, upd, hj]
      have e2 : g1.D j = g.D j := by simp [g1, upd, hj]
      cases hoj : ob j with
      | gone => rw [hoj] at ho; exact ⟨e1.trans ho.1, e2.trans ho.2⟩
      | box t ds =>
        rw [hoj] at ho
        obtain ⟨b, vs, h1, h2, h3, h4, h5⟩ := ho
        exact ⟨b, vs, h1, e1.trans h2, e2.trans h3, h4, h5.mono fun x u _ hx => AVR.less hx rfl hless⟩
      | map kk vk kv =>
        rw [hoj] at ho
        obtain ⟨b, es, c, h1, h2, h3, h4⟩ := ho
        exact ⟨b, es, c, h1, e1.trans h2, e2.trans h3, h4⟩
      | row e' m' xs' d' =>
        rw [hoj] at ho
        obtain ⟨hm', cs', L', p1, p2, p3⟩ := ho
        refine ⟨hm', cs', L', p1, p2, ?_⟩
        rw [e1, e2]
        rcases p3 with p3 | ⟨q1, q2, q3, q4⟩ | ⟨q1, q2, q3, q4⟩
        · exact .inl p3
        · exact .inr (.inl ⟨q1, q2, q3, fun b mb hb => q4 b mb (hown b hb).1⟩)
        · exact .inr (.inr ⟨q1, q2, q3, fun b mb hb => q4 b mb (hown b hb).1⟩)
  · by_cases hj : j = k
    · subst hj; simp [g1, upd]
    · have := hI.nodup j; simpa [g1, upd, hj] using this
  · exact hI.apart i j hij x (hO i x mx).2 (hO j x mj).2
  · rw [upd_ne _ _ (hO j x mx).1]; exact hI.plain j x (hO j x mx).2
  · rw [Nat.zero_add, cell_of_row w b j vs.toArray t (0, 0) h4]; simpa using hj
/-- a row that is only read, as a tree -/
theorem frz_tree [NW] {ob : Nat → Ob} (hI : HI W g ob w) {k e m : Nat} {xs : List (List CT)} (hk : ob k = .row e m xs 0) : ∃ L, RC w (.sl e m xs) (g.val k) L ∧ ∀ b ∈ L, ¬ g.own b := by
  obtain ⟨hm, cs, L1, o1, o2, o3, o5⟩ := hI.deep hk
  obtain ⟨A, cap, L0, s1, s2, s3, s4, s5⟩ := Sl.row o1
  refine ⟨L0 ++ L1, ⟨A, cap, cs, L0, L1, s1, s2, s3, rfl, hm, s4, o2⟩, fun b mb => ?_⟩
  rcases List.mem_append.1 mb with m1 | m1
  · rcases o5 with ⟨q, _⟩ | ⟨q, _⟩ | ⟨_, _, _, q⟩
    · omega
    · omega
    · exact q b (s5.subset m1)
  · exact o3 b m1
theorem REs.dropS {m : Nat} : ∀ {xs : List (List CT)} {cs : List Value} {L : List Nat} (l : Nat), REs w m xs cs L → ∃ L', REs w m (xs.drop l) (cs.drop (l * m)) L' ∧ L'.Sublist L
  | xs, cs, L, 0, h => ⟨L, by simpa using h, List.Sublist.refl _⟩
  | [], cs, L, l + 1, h => ⟨[], by obtain ⟨rfl, rfl⟩ := h; simp [REs], List.nil_sublist _⟩
  | x :: r, _, _, l + 1, ⟨c1, c2, L1, L2, rfl, rfl, h3, h4⟩ => by
    obtain ⟨L', h5, h6⟩ := REs.dropS l h4
    refine ⟨L', ?_, h6.trans (List.sublist_append_right _ _)⟩
    have e : (l + 1) * m = c1.length + l * m := by rw [h3.2, Nat.add_mul]; omega
    have e2 : (c1 ++ c2).drop (c1.length + l * m) = c2.drop (l * m) := by
      rw [List.drop_append, List.drop_of_length_le (Nat.le_add_right _ _), List.nil_append, Nat.add_sub_cancel_left]
    rw [e, e2]
    simpa using h5
/-- what is left of a row of the call's own takes the row's place -/
theorem slice_mv [NW] (htt : ∀ t i, tt t = some i → TOk P t i) (hI : HI W g st.ob w) (hU : StU U st) (hkey : ¬ U key) {t k e m d l : Nat} {xs : List (List CT)} (hk : st.ob k = .row e m xs d) (hd0 : ¬ d = 0) (hsz : sizeSl (tt t) = m) {lo : Option SV} {vx : Value} {vlo : Option Value} (hl : loB xs.length lo = some l) (hx : SVR g w (.p false [.row k]) vx)
    (hlo : optR g w lo vlo) {s : Sem Next} (hs : s = (do pure (.value (← Instr.sliceAt t vx vlo none none)))) : Fin P W U key st g w s (.p false [.row key], [(k, .gone), (key, .row e m (xs.drop l) d)]) := by
  obtain ⟨hm, cs, L, o1, o2, o3, o4, o5⟩ := hI.deepO hk hd0
  have hv := row_of hx
  subst hv
  obtain ⟨A, cap, hv, hnc, hcm⟩ := ownV_slice o1
  obtain ⟨b1, b2, _⟩ := bounds_run (P := P) (w := w) (g := g) (b := true) (len := xs.length) (cap := cap) (h := xs.length) (hi := none) (vhi := none) rfl hl hlo trivial hnc
  obtain ⟨e', b', z', hti⟩ : ∃ e' b' z', tt t = some (.slice e' m b' z') := by
    unfold sizeSl at hsz
    split at hsz
    · rename_i h1; subst hsz; exact ⟨_, _, _, h1⟩
    · omega
  obtain ⟨hu, _, _, ⟨ie, zv, hie, hsi, _⟩, _⟩ := htt t _ hti
  have hO : g.O k = (Value.slice A xs.length cap).ownBlock.toList := by rw [o4, hv]
  have o1' := o1
  rw [hv] at o1'
  obtain ⟨t1, t2⟩ := ownsV_tail (l := l) o1' b2
  generalize hw : (Value.slice (if cap = l then A else A.map (·.add (l * m))) (xs.length - l) (cap - l)) = v' at t1 t2
  have hrun : s.run P w = .ok (.value v') w := by
    subst hs
    have : (Instr.sliceAt t (.slice A xs.length cap) vlo none none).run P w = .ok v' w := by
      rw [← hw]
      simp [Instr.sliceAt, run_und hu, Instr.slice, b1, run_size hie, hsi]
    rw [hv]
    simp only [Sem.run_bind, this, Result.andThen_ok, Sem.run_pure]
  obtain ⟨M, r1, r2⟩ := o2.dropS l
  have hUk : U k := Classical.byContradiction fun hn => by have := hU.gone _ hn; rw [hk] at this; simp at this
  have hDm : ∀ b ∈ (if d = 2 then M else []), b ∈ g.D k := fun b mb => by
    split at mb
    · rename_i hd
      rcases o5 with ⟨_, q⟩ | ⟨q, _⟩
      · rw [q]; exact r2.subset mb
      · omega
    · simp at mb
  have hlen : (xs.drop l).length = xs.length - l := by simp
  obtain ⟨i1, i2⟩ := hI.turn (key := key) (U := U) (w' := w) (v := v') (O := v'.ownBlock.toList) (D := if d = 2 then M else []) (o := .row e m (xs.drop l) d) hU.ob hkey [k]
    (fun j mj => by simp at mj; subst mj; exact hUk) hI.below (Nat.le_refl _) (fun b hb hn => rfl)
    (fun b mb => .inl ⟨k, by simp, by rw [hO, ← t2]; exact mb⟩)
    (fun b mb => .inl ⟨k, by simp, List.mem_append.2 (.inr (hDm b mb))⟩)
    (by
      have hn := hI.nodup k
      refine hn.sublist (List.Sublist.append (by rw [hO, ← t2]; exact List.Sublist.refl _) ?_)
      split
      · rename_i hd
        rcases o5 with ⟨_, q⟩ | ⟨q, _⟩
        · rw [q]; exact r2
        · omega
      · exact List.nil_sublist _)
    (fun b mb => by
      have hmem : b ∈ g.O k ++ g.D k := by
        rcases List.mem_append.1 mb with mb | mb
        · exact List.mem_append.2 (.inl (by rw [hO, ← t2]; exact mb))
        · exact List.mem_append.2 (.inr (hDm b mb))
      obtain ⟨p1, p2⟩ := hI.plain k b hmem
      exact ⟨p1, p2.of (by rw [hk]; rfl)⟩)
    (fun hown => ⟨hm, cs.drop (l * m), M, by simp only [Gh.turn, upd_same]; rw [hlen]; exact t1, r1, by
      rcases o5 with ⟨q, _⟩ | ⟨q, _⟩
      · exact .inl ⟨q, by simp [Gh.turn, upd_same], by simp [Gh.turn, q]⟩
      · refine .inr (.inl ⟨q, by simp [Gh.turn, upd_same], by simp [Gh.turn, q], fun b mb ho => ?_⟩)
        rcases turn_own ho with mo | ⟨j, _, _, mj⟩ | hz
        · exact o3 b (r2.subset mb) (.inl ⟨k, by rw [hO, ← t2]; exact mo⟩)
        · exact o3 b (r2.subset mb) (.inl ⟨j, mj⟩)
        · exact o3 b (r2.subset mb) (.inr hz)⟩)
  have hwf := wf_turn (key := key) (o := .row e m (xs.drop l) d) hU [k] trivial
  refine ⟨_, v', w, .inl hrun, i1, ⟨_, rfl, ⟨by simp [Gh.turn, upd_same], ?_⟩⟩, i2, fun y my => by simp at my; subst my; exact key_in, hwf.1, hwf.2⟩
  rw [← hw]
  simp [Value.oneCell']
theorem sliceU_ok [NW] (htt : ∀ t i, tt t = some i → TOk P t i) (hI : HI W g st.ob w) (hU : StU U st) (hkey : ¬ U key) {t : Nat} {x : SV} {r : SV × List (Nat × Ob)} {lo hi : Option SV} {vx : Value} {vlo vhi : Option Value} (h : sliceU st key (tt t) lo hi x = some r) (hx : SVR g w x vx)
    (hlo : optR g w lo vlo) (hhi : optR g w hi vhi) {s : Sem Next} (hs : s = (do pure (.value (← Instr.sliceAt t vx vlo vhi none)))) : Fin P W U key st g w s r := by
  unfold sliceU at h
  split at h
  · rename_i k
    split at h
    rotate_left
    · simp at h
    split at h
    · rename_i e m xs d hk
      split at h
      · rename_i hsz
        split at h
        · rename_i hmv
          obtain ⟨l, hl, rfl⟩ := Option.map_eq_some_iff.1 h
          unfold mvS at hmv
          split at hmv
          · have hd0 : ¬ d = 0 := fun e => by subst e; simp at hmv
            cases vhi with
            | some _ => exact hhi.elim
            | none => exact slice_mv htt hI hU hkey hk hd0 hsz hl hx hlo hs
          · simp at hmv
        obtain ⟨q, hq, h⟩ := Option.bind_eq_some_iff.1 h
        obtain ⟨l, hl, rfl⟩ := Option.map_eq_some_iff.1 h
        obtain ⟨g1, i1, i2, i3, _⟩ := frz_one hI k
        rw [hk] at i1
        obtain ⟨L, t1, t2⟩ := frz_tree i1 (upd_same st.ob k (.row e m xs 0))
        have hvx : vx = g1.val k := by rw [i2]; exact row_of hx
        have hx1 : SVR g1 w (.p false [.c (.sl e m xs)]) vx := ⟨_, rfl, L, hvx ▸ t1, t2⟩
        have lo1 : optR g1 w lo vlo := by
          cases lo <;> cases vlo <;> simp only [optR] at hlo ⊢
          exact hlo.less i2 i3
        have hi1 : optR g1 w hi vhi := by
          cases hi <;> cases vhi <;> simp only [optR] at hhi ⊢
          exact hhi.less i2 i3
        obtain ⟨cv, c1, c2, c3⟩ := slice_ok (t := t) (U := U) (g := g1) (P := P) (x := .p false [.c (.sl e m xs)]) (v := .p false [.c (.sl e m ((xs.take q).drop l))]) htt (by simp only [sliceV, hsz, if_true, hq, hl, Option.bind_some, Option.map_some]) hx1 lo1 hi1
        have hUk : U k := Classical.byContradiction fun hn => by have := hU.gone _ hn; rw [hk] at this; simp at this
        refine ⟨g1, cv, w, .inl (by rw [hs]; simp only [Sem.run_bind, c1, Result.andThen_ok, Sem.run_pure]), i1, c2, fun y v _ hy => hy.less i2 i3, c3.mono fun _ => .inl, fun j => ?_, fun j hj => ?_⟩
        · show obU _ (upd st.ob k (.row e m xs 0) j)
          by_cases hjk : j = k
          · subst hjk; rw [upd_same]; trivial
          · rw [upd_ne _ _ hjk]; exact (hU.ob j).mono fun _ => .inl
        · show upd st.ob k (.row e m xs 0) j = _
          rw [upd_ne _ _ (show j ≠ k from fun e => hj (.inl (e ▸ hUk)))]; exact hU.gone j fun h => hj (.inl h)
      · simp at h
    · simp at h
  · obtain ⟨v, hv, rfl⟩ := Option.map_eq_some_iff.1 h
    obtain ⟨cv, c1, c2, c3⟩ := slice_ok (U := U) htt hv hx hlo hhi
    exact fin_pure hI hU (by rw [hs]; simp only [Sem.run_bind, c1, Result.andThen_ok, Sem.run_pure]) c2 c3
  · simp at h
end
end
section
open Go.RowKit Go.MapKept
theorem key_of {kk : PK} {d : TypeDesc} {k : Value} (hd : kindP kk d = true) (hk : pkOk kk k) : IsKey d k := by
  cases kk <;> cases d <;> simp [kindP] at hd <;> cases k <;> simp_all [pkOk, IsKey]
theorem vEq_iff {kk : PK} {a b : Value} (ha : pkOk kk a) (hb : pkOk kk b) : vEq a b = true ↔ a = b := by
  cases kk <;> cases a <;> simp [pkOk] at ha <;> cases b <;> simp [pkOk] at hb <;> simp_all [vEq, sEq]
theorem findNow_ok [NW] {kk vk : PK} {d : TypeDesc} {k : Value} (hd : kindP kk d = true) (hk : pkOk kk k) : ∀ (l : List MapEntry) (i : Nat), mapOk kk vk (l.map fun e => (e.key, e.val)) →
    (Instr.findNow d k l i = some none ∧ mget (l.map fun e => (e.key, e.val)) k = none ∧ ∀ v, mput (l.map fun e => (e.key, e.val)) k v = (l.map fun e => (e.key, e.val)) ++ [(k, v)]) ∨
    ∃ j e, Instr.findNow d k l i = some (some (i + j, e.val)) ∧ l[j]? = some e ∧ e.key = k ∧ mget (l.map fun e => (e.key, e.val)) k = some e.val ∧ pkOk vk e.val ∧ ∀ v, mput (l.map fun e => (e.key, e.val)) k v = (l.modify j fun e => { e with key := k, val := v }).map fun e => (e.key, e.val)
  | [], i, _ => .inl ⟨rfl, rfl, fun _ => rfl⟩
  | e :: l, i, h => by
    have he := h (e.key, e.val) (by simp)
    obtain ⟨r, hr, hiff⟩ := sameNow_of_keys (key_of hd hk) (key_of hd he.1)
    cases r with
    | true =>
      have hek := hiff.1 rfl
      have hv : vEq k e.key = true := (vEq_iff hk he.1).2 hek
      exact .inr ⟨0, e, by simp [Instr.findNow, hr], rfl, hek.symm, by simp [mget, hv], he.2, fun v => by simp [mput, hv]⟩
    | false =>
      have hne : ¬ vEq k e.key = true := fun q => by have := hiff.2 ((vEq_iff hk he.1).1 q); cases this
      rcases findNow_ok hd hk l (i + 1) (fun p m => h p (by simp only [List.map_cons, List.mem_cons]; exact .inr m)) with ⟨h1, h2, h3⟩ | ⟨j, e', h1, h2, h3, h4, h5, h6⟩
      · exact .inl ⟨by simp [Instr.findNow, hr, h1], by simp [mget, hne, h2], fun v => by simp [mput, hne, h3]⟩
      · exact .inr ⟨j + 1, e', by simp [Instr.findNow, hr, h1]; omega, by simpa using h2, h3, by simp [mget, hne, h4], h5, fun v => by simp [mput, hne, h6]⟩
section
variable {P : Program} {W : Base} {U : Nat → Prop} {key : Nat} {st : St} {g : Gh} {w w' : World} {a : Act} {tt : Nat → Option TI}
theorem avV_ok [NW] {vk : PK} {v : Value} (h : pkOk vk v) : AVR g w (avV v) v := by
  cases vk <;> cases v <;> simp [pkOk] at h <;> first | exact ⟨[], ⟨rfl, rfl⟩, by simp⟩ | exact ⟨[], ⟨rfl, rfl, h⟩, by simp⟩
theorem avV_u (v : Value) : avU U (avV v) := by cases v <;> trivial
theorem keyV_ok [NW] {kk : PK} {x : SV} {v k : Value} (h : keyV kk x = some k) (hx : SVR g w x v) : v = k ∧ pkOk kk k := by
  unfold keyV at h
  split at h
  · split at h <;> simp only [Option.some.injEq, reduceCtorEq] at h
    rename_i e; subst e h
    exact ⟨int_of hx, rfl⟩
  · simp only [Option.some.injEq] at h; subst h
    exact ⟨(str_of hx).1, (str_of hx).2⟩
  · simp only [Option.some.injEq] at h; subst h
    exact ⟨bool_of hx, trivial⟩
  · simp at h
theorem isMapOf_ok (htt : ∀ t i, tt t = some i → TOk P t i) {t : Nat} {kk vk : PK} (h : isMapOf kk vk (tt t) = true) : TOk P t (.map kk vk) := by
  unfold isMapOf at h
  split at h
  · rename_i a b hti
    simp only [Bool.and_eq_true, decide_eq_true_eq] at h
    rw [h.1, h.2] at hti
    exact htt _ _ hti
  · simp at h
theorem zeroPK_ok [NW] {vk : PK} {zv : Value} (h : constB (zeroPK vk) zv = true) : AVR g w (zeroPK vk) zv ∧ avU U (zeroPK vk) := by
  refine ⟨const_AVR h, ?_⟩
  cases vk <;> trivial
theorem look_run [NW] (htt : ∀ t i, tt t = some i → TOk P t i) {t : Nat} {kk vk : PK} {kv : List (Value × Value)} {i v : SV} {vi : Value} {ok : Bool} {b c : Nat} {es : Array MapEntry} (hm : isMapOf kk vk (tt t) = true) (h : lookS kk vk kv i ok = some v) (hi : SVR g w i vi) (hb : w.heap[b]? = some (.map es c)) (hes : mapOf es = kv) (hok : mapOk kk vk kv) :
    ∃ cv, (Instr.lookup t (.map (some b)) vi ok).run P w = .ok cv w ∧ SVR g w v cv ∧ svU U v := by
  obtain ⟨kt, et, dk, dv, inf, zv, h1, h2, h3, h4, h5, h6, h7, h8⟩ := isMapOf_ok htt hm
  unfold lookS at h
  obtain ⟨k, hk, rfl⟩ := Option.map_eq_some_iff.1 h
  obtain ⟨rfl, hkk⟩ := keyV_ok hk hi
  subst hes
  have hz := zeroPK_ok (g := g) (w := w) (U := U) h8
  have hze : (zeroValue et).run P w = .ok zv w := run_zero h6 h7
  have key : ∃ r : Option (Nat × Value), (Instr.findKey kt vi es.toList).run P w = .ok r w ∧ (match r with | some p => mget (mapOf es) vi = some p.2 ∧ pkOk vk p.2 | none => mget (mapOf es) vi = none) := by
    rcases findNow_ok h3 hkk es.toList 0 hok with ⟨f1, f2, _⟩ | ⟨j, e, f1, f2, f3, f4, f5, _⟩
    · exact ⟨none, run_findKey h2 f1, f2⟩
    · exact ⟨some _, run_findKey h2 f1, f4, f5⟩
  obtain ⟨r, hr, hr2⟩ := key
  have hck : (Instr.checkKey es.isEmpty 10000 kt vi).run P w = .ok () w := run_checkKey (P := P) (w := w) h2 (key_of h3 hkk) es.isEmpty 9999
  have hg : (getObj b).run P w = .ok (.map es c) w := by simp [getObj, Sem.run, hb]
  have hfin : ∃ rv rb, (Instr.lookup t (.map (some b)) vi ok).run P w = .ok (if ok then .tuple #[rv, .bool rb] else rv) w ∧ AVR g w (lookAV (mapOf es) vi (zeroPK vk)) rv ∧ avU U (lookAV (mapOf es) vi (zeroPK vk)) ∧ hasKey (mapOf es) vi = rb := by
    cases r with
    | none =>
      simp only at hr2
      refine ⟨zv, false, ?_, by simp only [lookAV, hr2]; exact hz.1, by simp only [lookAV, hr2]; exact hz.2, by simp [hasKey, hr2]⟩
      unfold Instr.lookup
      simp only [Sem.run_bind, run_und h1, Result.andThen_ok, hg, Sem.run_pure, hck, hr, hze]
    | some p =>
      simp only at hr2
      refine ⟨p.2, true, ?_, by simp only [lookAV, hr2.1]; exact avV_ok hr2.2, by simp only [lookAV, hr2.1]; exact avV_u _, by simp [hasKey, hr2.1]⟩
      unfold Instr.lookup
      simp only [Sem.run_bind, run_und h1, Result.andThen_ok, hg, Sem.run_pure, hck, hr]
  obtain ⟨rv, rb, q1, q2, q3, q4⟩ := hfin
  refine ⟨_, q1, ?_, ?_⟩
  · cases ok with
    | true => exact ⟨[rv, .bool rb], rfl, ⟨_, rfl, q2⟩, ⟨_, rfl, [], ⟨by rw [q4], rfl⟩, by simp⟩, trivial⟩
    | false => exact ⟨_, rfl, q2⟩
  · cases ok with
    | true =>
      intro y my
      simp only [List.mem_cons, List.not_mem_nil, or_false] at my
      rcases my with rfl | rfl
      · intro z mz; simp at mz; subst mz; exact q3
      · intro z mz; simp at mz; subst mz; trivial
    | false => intro z mz; simp at mz; subst mz; exact q3
theorem look_ok [NW] (htt : ∀ t i, tt t = some i → TOk P t i) (hI : HI W g st.ob w) {t : Nat} {x i v : SV} {vx vi : Value} {ok : Bool} (h : lookV st (tt t) x i ok = some v) (hx : SVR g w x vx) (hi : SVR g w i vi) :
    ∃ cv, (Instr.lookup t vx vi ok).run P w = .ok cv w ∧ SVR g w v cv ∧ svU U v := by
  unfold lookV at h
  split at h
  · rename_i k
    split at h
    · rename_i kk vk kv hk
      split at h
      · rename_i hm
        have hv := row_of hx
        have ho := hI.obs k
        rw [hk] at ho
        obtain ⟨b, es, c, h1, _, _, h4, h5, h6⟩ := ho
        rw [hv, h1]
        exact look_run htt hm h hi h4 h5 h6
      · simp at h
    · simp at h
  · rename_i kk vk kv
    split at h
    · rename_i hm
      obtain ⟨y, hy, hx⟩ := hx
      simp at hy; subst hy
      obtain ⟨L, ⟨b, es, c, rfl, h4, h5, h6, _⟩, _⟩ := hx
      exact look_run htt hm h hi h4 h5 h6
    · simp at h
  · simp at h
theorem mkm_ok [NW] (htt : ∀ t i, tt t = some i → TOk P t i) (hI : HI W g st.ob w) (hU : StU U st) (hkey : ¬ U key) {t : Nat} {r : SV × List (Nat × Ob)} (h : mkMap key (tt t) = some r) {s : Sem Next} (hs : s = (do pure (.value (← Instr.makeMap t none)))) : Fin P W U key st g w s r := by
  unfold mkMap at h
  split at h
  · rename_i kk vk hti
    simp only [Option.some.injEq] at h; subst h
    have hrun : s.run P w = .ok (.value (.map (some w.heap.size))) (w.alloc (.map #[] 0)) := by
      subst hs
      have h0 : (Instr.makeMap t none).run P w = .ok (.map (some w.heap.size)) (w.alloc (.map #[] 0)) := rfl
      simp only [Sem.run_bind, h0, Result.andThen_ok, Sem.run_pure]
    have hb : Below w.heap.size w (w.alloc (.map #[] 0)) := (Below.refl _ _).alloc (Nat.le_refl _) _
    have hnew := heap_alloc_new w (.map #[] 0)
    obtain ⟨h1, h2⟩ := hI.turn (key := key) (U := U) (w' := w.alloc (.map #[] 0)) (v := .map (some w.heap.size)) (O := [w.heap.size]) (D := []) (o := .map kk vk []) hU.ob hkey [] (by simp)
      (hI.below.trans hb) hb.size (fun b hb' _ => hb.block b hb') (by simp) (by simp) (by simp) (fun b mb => by
        simp at mb; subst mb
        exact ⟨.inl hI.below.size, _, _, hnew⟩)
      (fun _ => ⟨w.heap.size, #[], 0, by simp [Gh.turn, upd], by simp [Gh.turn, upd], by simp [Gh.turn, upd], hnew, rfl, fun _ m => by simp at m⟩)
    have hwf := wf_turn (key := key) (o := .map kk vk []) hU [] trivial
    exact ⟨_, _, _, .inl hrun, h1, ⟨_, rfl, ⟨by simp [Gh.turn, upd], by simp [Value.oneCell']⟩⟩, h2, fun y my => by simp at my; subst my; exact key_in, hwf.1, hwf.2⟩
  · simp at h
theorem mup_run [NW] (htt : ∀ t i, tt t = some i → TOk P t i) {t : Nat} {kk vk : PK} {kv : List (Value × Value)} {k v : Value} {b c : Nat} {es : Array MapEntry} (hm : isMapOf kk vk (tt t) = true) (hk : pkOk kk k) (hv : pkOk vk v) (hb : w.heap[b]? = some (.map es c)) (hes : mapOf es = kv) (hok : mapOk kk vk kv) :
    ∃ es' c', (Instr.mapUpdate t (.map (some b)) k v).run P w = .ok () { w with heap := w.heap.setIfInBounds b (.map es' c') } ∧ mapOf es' = mput kv k v ∧ mapOk kk vk (mput kv k v) := by
  obtain ⟨kt, et, dk, dv, inf, zv, h1, h2, h3, h4, h5, h6, h7, h8⟩ := isMapOf_ok htt hm
  subst hes
  have hck : (Instr.checkKey false 10000 kt k).run P w = .ok () w := run_checkKey (P := P) (w := w) h2 (key_of h3 hk) false 9999
  have hg : (getObj b).run P w = .ok (.map es c) w := by simp [getObj, Sem.run, hb]
  have hst : ∀ o, (setObj b o).run P w = .ok () { w with heap := w.heap.setIfInBounds b o } := fun o => by simp [setObj, Sem.run, hb]
  have hput : ∀ {kv : List (Value × Value)}, mapOk kk vk kv → mapOk kk vk (mput kv k v) := fun {kv} => by
    induction kv with
    | nil => intro _ p m; simp [mput] at m; subst m; exact ⟨hk, hv⟩
    | cons q r ih =>
      intro h p m
      simp only [mput] at m
      split at m
      · rcases List.mem_cons.1 m with rfl | m
        · exact ⟨hk, hv⟩
        · exact h p (by simp [m])
      · rcases List.mem_cons.1 m with rfl | m
        · exact h p (by simp)
        · exact ih (fun q mq => h q (by simp [mq])) p m
  rcases findNow_ok h3 hk es.toList 0 hok with ⟨f1, _, f2⟩ | ⟨j, e, f1, f2, f3, _, _, f4⟩
  · refine ⟨es.push { key := k, val := v, born := c }, c + 1, ?_, ?_, hput hok⟩
    · have hf := run_findKey (P := P) (w := w) h2 f1
      unfold Instr.mapUpdate
      simp only [Sem.run_bind, run_und h1, Result.andThen_ok, hg, hck, hf, hst]
    · rw [show mput (mapOf es) k v = _ from f2 v]; simp [mapOf]
  · rw [Nat.zero_add] at f1
    have hf := run_findKey (P := P) (w := w) h2 f1
    have hj : es[j]? = some e := by simpa using f2
    have hkey : (Instr.keyThatStays k k).run P w = .ok k w := run_keyThatStays (key_of h3 hk)
    refine ⟨es.modify j fun e => { e with key := k, val := v }, c, ?_, ?_, hput hok⟩
    · unfold Instr.mapUpdate
      simp only [Sem.run_bind, run_und h1, Result.andThen_ok, hg, hck, hf, hst, hj, Option.map_some, Option.getD_some, f3, hkey]
    · rw [show mput (mapOf es) k v = _ from f4 v]; simp [mapOf]
theorem mup_ok [NW] (htt : ∀ t i, tt t = some i → TOk P t i) (hI : HI W g st.ob w) (hU : StU U st) {t : Nat} {x i v : SV} {u : List (Nat × Ob)} {vx vi vv : Value} (h : mupV st (tt t) x i v = some u) (hx : SVR g w x vx) (hi : SVR g w i vi) (hv : SVR g w v vv) {s : Sem Next} (hs : s = (do Instr.mapUpdate t vx vi vv; pure .skip)) : Fin P W U key st g w s (.und, u) := by
  unfold mupV at h
  split at h
  · rename_i k
    split at h
    · rename_i kk vk kv hk
      split at h
      · rename_i hm
        obtain ⟨a, ha, h⟩ := Option.bind_eq_some_iff.1 h
        obtain ⟨b', hb', rfl⟩ := Option.map_eq_some_iff.1 h
        obtain ⟨rfl, hka⟩ := keyV_ok ha hi
        obtain ⟨rfl, hkb⟩ := keyV_ok hb' hv
        have hvx := row_of hx
        have ho := hI.obs k
        rw [hk] at ho
        obtain ⟨b, es, c, h1, h2, h3, h4, h5, h6⟩ := ho
        obtain ⟨es', c', r1, r2, r3⟩ := mup_run (w := w) htt hm hka hkb h4 h5 h6
        have hrun : s.run P w = .ok .skip { w with heap := w.heap.setIfInBounds b (.map es' c') } := by
          rw [hs, hvx, h1]; simp only [Sem.run_bind, r1, Result.andThen_ok, Sem.run_pure]
        obtain ⟨q1, q2⟩ := heap_set (o' := .map es' c') h4
        have hlt : b < w.heap.size := (Array.getElem?_eq_some_iff.1 h4).1
        have hsz : ({ w with heap := w.heap.setIfInBounds b (.map es' c') } : World).heap.size = w.heap.size := by simp
        have hbW : W.heap.size ≤ b ∨ W.x b := (hI.plain k b (by simp [h2])).1
        have hUk : U k := Classical.byContradiction fun hn => by have := hU.gone _ hn; rw [hk] at this; simp at this
        have hmv : ∀ b', b' < w.heap.size → ¬ g.own b' → ({ w with heap := w.heap.setIfInBounds b (.map es' c') } : World).heap[b']? = w.heap[b']? := fun b' _ hn => q2 b' fun e => hn (.inl ⟨k, by simp [h2, e]⟩)
        refine ⟨g, undef, _, .inr ⟨hrun, rfl⟩, ?_, rfl, fun x u hx hu => hu.move hx (fun _ _ => rfl) hmv (OGrow.refl _ _) (Nat.le_of_eq hsz.symm), trivial, fun q => ?_, fun q hq => ?_⟩
        · refine hI.step (U := U) (fun q => q = k) ?_ rfl (fun b' _ hn => q2 b' fun e => hn k rfl (by simp [h2, e])) (fun q hq => ⟨upd_ne _ _ hq, rfl, rfl, rfl⟩) hU.ob (fun _ _ => rfl) (OGrow.refl _ _) (fun q hq => ?_)
          · exact ⟨hI.below.os, hI.below.tape, hI.below.output, Nat.le_trans hI.below.size (Nat.le_of_eq hsz.symm), fun q hq hx => by
              show (w.heap.setIfInBounds b (.map es' c'))[q]? = _
              rw [q2 q (fun e => by subst e; rcases hbW with h | h; omega; exact hx h)]; exact hI.below.block q hq hx⟩
          · subst hq
            refine ⟨?_, hI.nodup q, fun b' m => ?_, hI.apart q⟩
            · simp only [updAll, upd_same]
              exact ⟨b, es', c', h1, h2, h3, q1, r2, r3⟩
            · simp [h2, h3] at m
              subst m
              refine ⟨hbW, ?_⟩
              simp only [updAll, upd_same]
              exact ⟨_, _, q1⟩
        · simp only [updAll, upd]
          split
          · trivial
          · exact (hU.ob q).mono fun _ => .inl
        · simp only [updAll, upd]
          split
          · rename_i e; subst e; exact absurd (.inl hUk) hq
          · exact hU.gone q fun h => hq (.inl h)
      · simp at h
    · simp at h
  · simp at h
theorem zBox_ok [NW] : ∀ {cs : List AV} {l : List CT} {vs : List Value}, capV.zBox cs = some l → All2 (AVR g w) cs vs → ∃ L, RCs w l vs L ∧ ∀ b ∈ L, ¬ g.own b
  | [], l, [], h, _ => by simp [capV.zBox] at h; subst h; exact ⟨[], ⟨rfl, rfl⟩, by simp⟩
  | [], _, _ :: _, _, h => h.elim
  | _ :: _, _, [], _, h => h.elim
  | x :: r, l, v :: vs, h, hr => by
    cases x with
    | c x =>
      simp only [capV.zBox] at h
      obtain ⟨b, hb, rfl⟩ := Option.map_eq_some_iff.1 h
      obtain ⟨L, h1, h2⟩ := zBox_ok hb hr.2
      obtain ⟨L0, h3, h4⟩ := hr.1
      refine ⟨L0 ++ L, ⟨v, vs, L0, L, rfl, rfl, h3, h1⟩, fun b mb => ?_⟩
      rcases List.mem_append.1 mb with m | m
      · exact h4 b m
      · exact h2 b m
    | _ => simp [capV.zBox] at h
theorem capV_keys {x : SV} {r : CT × List (Nat × Ob)} (h : capV st x = some r) : (∀ p ∈ r.2, p.2 = Ob.gone ∧ ∃ t cs, st.ob p.1 = .box t cs) := by
  unfold capV at h
  split at h
  · split at h
    · rename_i k _ t cs hk
      obtain ⟨l, _, rfl⟩ := Option.map_eq_some_iff.1 h
      intro p mp; simp at mp; subst mp
      exact ⟨rfl, t, cs, hk⟩
    · simp at h
  · simp only [Option.some.injEq] at h; subst h; intro p mp; simp at mp
  · simp at h
/-- one captured thing: where its box is still there -/
theorem capV_ok [NW] {ob : Nat → Ob} (hI : HI W g ob w) {x : SV} {r : CT × List (Nat × Ob)} {v : Value} (h : capV st x = some r) (hob : ∀ p ∈ r.2, ob p.1 = st.ob p.1) (hx : SVR g w x v) :
    ∃ g1 : Gh, HI W g1 (updAll ob r.2) w ∧ g1.val = g.val ∧ OLess g1 g ∧ ∃ L, RC w r.1 v L ∧ ∀ b ∈ L, ¬ g1.own b := by
  unfold capV at h
  split at h
  · rename_i k
    split at h
    · rename_i t cs hk
      obtain ⟨l, hl, rfl⟩ := Option.map_eq_some_iff.1 h
      have hk' : ob k = .box t cs := (hob (k, .gone) (by simp)).trans hk
      obtain ⟨g1, i1, i2, i3, b, vs, j1, j2, j3, j4, j5⟩ := box_gone hI hk'
      obtain ⟨L, l1, l2⟩ := zBox_ok hl j5
      obtain ⟨b', e1, rfl⟩ := hx
      rw [j1] at e1
      simp at e1
      subst e1
      refine ⟨g1, i1, i2, i3, b :: L, ⟨b, vs, L, rfl, j3, rfl, j4, l1⟩, fun x mx => ?_⟩
      rcases List.mem_cons.1 mx with rfl | mx
      · exact j2
      · exact fun hx => l2 x mx (i3.own x hx)
    · simp at h
  · simp only [Option.some.injEq] at h; subst h
    obtain ⟨y, hy, hx⟩ := hx
    simp at hy; subst hy
    obtain ⟨L, h1, h2⟩ := hx
    exact ⟨g, hI, rfl, OLess.refl _, L, h1, h2⟩
  · simp at h
theorem capsV_ok [NW] : ∀ {xs : List SV} {ob : Nat → Ob} {g : Gh} {r : List CT × List (Nat × Ob)} {vs : List Value}, HI W g ob w → capsV st xs = some r → (r.2.map (·.1)).Nodup → (∀ p ∈ r.2, ob p.1 = st.ob p.1) → All2 (SVR g w) xs vs →
    ∃ g1 : Gh, HI W g1 (updAll ob r.2) w ∧ g1.val = g.val ∧ OLess g1 g ∧ ∃ L, RCs w r.1 vs L ∧ ∀ b ∈ L, ¬ g1.own b
  | [], ob, g, r, vs, hI, h, _, _, hr => by
    simp [capsV] at h; subst h
    cases vs with
    | nil => exact ⟨g, hI, rfl, OLess.refl _, [], ⟨rfl, rfl⟩, by simp⟩
    | cons _ _ => exact hr.elim
  | x :: xs, ob, g, r, [], hI, h, _, _, hr => hr.elim
  | x :: xs, ob, g, r, v :: vs, hI, h, hn, hob, hr => by
    simp only [capsV] at h
    obtain ⟨a, ha, h⟩ := Option.bind_eq_some_iff.1 h
    obtain ⟨b, hb, rfl⟩ := Option.map_eq_some_iff.1 h
    simp only [List.map_append, List.nodup_append] at hn
    obtain ⟨n1, n2, n3⟩ := hn
    obtain ⟨g1, i1, i2, i3, L1, l1, l2⟩ := capV_ok hI ha (fun p m => hob p (by simp [m])) hr.1
    have hob2 : ∀ p ∈ b.2, updAll ob a.2 p.1 = st.ob p.1 := fun p mp => by
      have hne : ∀ q ∈ a.2, q.1 ≠ p.1 := fun q mq => n3 q.1 (List.mem_map.2 ⟨q, mq, rfl⟩) p.1 (List.mem_map.2 ⟨p, mp, rfl⟩)
      have : ∀ (u : List (Nat × Ob)) (ob : Nat → Ob), (∀ q ∈ u, q.1 ≠ p.1) → updAll ob u p.1 = ob p.1 := by
        intro u
        induction u with
        | nil => intro ob _; rfl
        | cons q u ih => intro ob h; rw [updAll, ih _ fun z mz => h z (by simp [mz])]; exact upd_ne _ _ fun e => h q (by simp) e.symm
      rw [this _ _ hne]
      exact hob p (by simp [mp])
    have hr2 : All2 (SVR g1 w) xs vs := hr.2.mono fun x u _ hx => hx.less i2 i3
    obtain ⟨g2, k1, k2, k3, L2, m1, m2⟩ := capsV_ok i1 hb n2 hob2 hr2
    refine ⟨g2, ?_, k2.trans i2, k3.trans i3, L1 ++ L2, ⟨v, vs, L1, L2, rfl, rfl, l1, m1⟩, fun x mx => ?_⟩
    · rw [updAll_append]; exact k1
    · rcases List.mem_append.1 mx with m | m
      · exact fun hx => l2 x m (k3.own x hx)
      · exact m2 x m
theorem capsV_gone [NW] : ∀ {xs : List SV} {r : List CT × List (Nat × Ob)}, capsV st xs = some r → ∀ p ∈ r.2, p.2 = Ob.gone ∧ ∃ t cs, st.ob p.1 = .box t cs
  | [], r, h => by simp [capsV] at h; subst h; intro p m; simp at m
  | x :: xs, r, h => by
    simp only [capsV] at h
    obtain ⟨a, ha, h⟩ := Option.bind_eq_some_iff.1 h
    obtain ⟨b, hb, rfl⟩ := Option.map_eq_some_iff.1 h
    intro p m
    rcases List.mem_append.1 m with m | m
    · exact capV_keys ha p m
    · exact capsV_gone hb p m
theorem mkf_ok [NW] (hI : HI W g st.ob w) (hU : StU U st) {f : FuncId} {xs : List SV} {vs : List Value} {r : List CT × List (Nat × Ob)} (h : capsV st xs = some r) (hn : (r.2.map (·.1)).Nodup) (hr : All2 (SVR g w) xs vs) {s : Sem Next} (hs : s.run P w = .ok (.value (.func (.func f) #[] vs.toArray)) w) : Fin P W U key st g w s (.p false [.c (.fn f r.1)], r.2) := by
  obtain ⟨g1, i1, i2, i3, L, l1, l2⟩ := capsV_ok hI h hn (fun _ _ => rfl) hr
  have hg := capsV_gone h
  have hall : ∀ (u : List (Nat × Ob)) (ob : Nat → Ob) (k : Nat), (∀ p ∈ u, p.2 = Ob.gone) → updAll ob u k = ob k ∨ updAll ob u k = .gone := by
    intro u
    induction u with
    | nil => intro ob k _; exact .inl rfl
    | cons q u ih =>
      intro ob k h
      rw [updAll]
      rcases ih (upd ob q.1 q.2) k (fun p m => h p (by simp [m])) with e | e
      · rw [e]
        by_cases hk : k = q.1
        · right; rw [hk, upd_same]; exact h q (by simp)
        · left; exact upd_ne _ _ hk
      · exact .inr e
  refine ⟨g1, _, w, .inl hs, i1, ⟨_, rfl, L, ⟨vs, rfl, l1⟩, l2⟩, fun x u _ hx => hx.less i2 i3, svU_c _, fun k => ?_, fun k hk => ?_⟩
  · rcases hall r.2 st.ob k (fun p m => (hg p m).1) with e | e
    · rw [e]; exact (hU.ob k).mono fun _ => .inl
    · rw [e]; trivial
  · rcases hall r.2 st.ob k (fun p m => (hg p m).1) with e | e
    · rw [e]; exact hU.gone k fun h => hk (.inl h)
    · exact e
end
end
section
open Go.RowKit
section
variable {P : Program} {W : Base} {U : Nat → Prop} {key : Nat} {st : St} {g : Gh} {w w' : World} {a : Act} {tt : Nat → Option TI}
theorem zipT_snd : ∀ (ts : List TypeId) (xs : List Operand), (zipT ts xs).map (·.2) = xs
  | _, [] => by cases ‹List TypeId› <;> rfl
  | [], x :: xs => by simp [zipT, zipT_snd [] xs]
  | t :: ts, x :: xs => by simp [zipT, zipT_snd ts xs]
theorem zeroOf_ok [NW] (htt : ∀ t i, tt t = some i → TOk P t i) {t : Nat} {z : List AV} (h : zeroOf (tt t) = some z) : ∃ zv vs, (zeroValue t).run P w = .ok zv w ∧ zv.cells = (vs : List Value).toArray ∧ All2 (AVR g w) z vs ∧ avsU U z := by
  unfold zeroOf at h
  split at h <;> simp only [Option.some.injEq, reduceCtorEq] at h <;> subst h <;> rename_i hti
  · obtain ⟨d, zv, i, h1, h2, h3, h4, h5, h6⟩ := htt t _ hti
    have hr : AVR g w _ zv := const_AVR h6
    exact ⟨zv, [zv], run_zero h3 h4, by rw [cells_one hr.one], ⟨hr, trivial⟩, fun y m => by
      simp at m; subst m
      cases y <;> first | trivial | simp [constB] at h6⟩
  · obtain ⟨fields, i, zvs, h1, h2, h3, h4, h5, _⟩ := htt t _ hti
    obtain ⟨q1, q2⟩ := consts_AVR (g := g) (w := w) (U := U) h5
    exact ⟨.agg zvs, zvs.toList, run_zero h2 h4, by simp [Value.cells], q1, q2⟩
  · obtain ⟨_, hm, _, _, j, h1, h2, h3⟩ := htt t _ hti
    exact ⟨_, [.slice none 0 0], run_zero h1 h3, rfl, ⟨rfl, trivial⟩, fun y m => by simp at m; subst m; trivial⟩
set_option maxHeartbeats 1000000 in
theorem opE_sound [NW] (htt : ∀ t i, tt t = some i → TOk P t i) (o : Oper) {r : SV × List (Nat × Ob)} (hr : opE tt key o st = some r) (hI : HI W g st.ob w) (hS : ∀ t, SVR g w (st.sl t) (a.tmps.getD t undef)) (hU : StU U st) (hkey : ¬ U key) :
    Fin P W U key st g w (execOp a.eval o) r := by
  have ev := fun t x => ev_ok (P := P) (a := a) (g := g) (w := w) (U := U) htt hS hU t x
  have pur : ∀ {v : Option SV} {s : Sem Value}, pure1 v = some r → execOp a.eval o = (do pure (.value (← s))) → (∀ u, v = some u → ∃ cv, s.run P w = .ok cv w ∧ SVR g w u cv ∧ svU U u) → Fin P W U key st g w (execOp a.eval o) r := fun {v s} hp he hv => by
    obtain ⟨u, hu, rfl⟩ := Option.map_eq_some_iff.1 hp
    obtain ⟨cv, c1, c2, c3⟩ := hv u hu
    exact fin_pure hI hU (by rw [he]; simp only [Sem.run_bind, c1, Result.andThen_ok, Sem.run_pure]) c2 c3
  obtain ⟨dst, op, ty, pos, af, gd⟩ := o
  cases op with
  | move x =>
    simp only [opE, Option.some.injEq] at hr; subst hr
    exact fin_pure hI hU rfl (ev ty x).1 (ev ty x).2
  | assign x =>
    simp only [opE, Option.some.injEq] at hr; subst hr
    exact fin_pure hI hU rfl (ev ty x).1 (ev ty x).2
  | pick c x y =>
    simp only [opE] at hr
    split at hr
    · rename_i b hb
      simp only [Option.some.injEq] at hr; subst hr
      have hc := (ev 0 c).1
      rw [hb] at hc
      obtain ⟨cv, c1, c2, c3⟩ := pick_ok (P := P) hc (ev ty x) (ev ty y)
      exact fin_pure hI hU c1 c2 c3
    · simp at hr
  | alloc t =>
    simp only [opE] at hr
    obtain ⟨z, hz, rfl⟩ := Option.map_eq_some_iff.1 hr
    obtain ⟨zv, vs, h1, h2, h3, h4⟩ := zeroOf_ok (P := P) (g := g) (w := w) (U := U) htt hz
    exact box_ok hI hU hkey h3 h4 (by simp [execOp, Instr.alloc, h1, newVar, newRow, h2])
  | box t x =>
    simp only [opE] at hr
    split at hr
    · rename_i ag cs hx
      simp only [Option.some.injEq] at hr; subst hr
      have hv := ev t x
      rw [hx] at hv
      obtain ⟨vs, h2, h3⟩ := PVR.cells hv.1
      exact box_ok hI hU hkey h3 hv.2 (by simp [execOp, Instr.box, newVar, newRow, h2])
    · simp at hr
  | build t parts =>
    simp only [opE] at hr
    split at hr
    · rename_i fs n z hti
      obtain ⟨cs, hcs, rfl⟩ := Option.map_eq_some_iff.1 hr
      obtain ⟨cv, c1, c2, c3⟩ := build_ok (P := P) htt hS hU hti hcs
      exact fin_pure hI hU (by simp only [execOp, Sem.run_bind, c1, Result.andThen_ok, Sem.run_pure]) c2 c3
    · simp at hr
  | buildSlice t len parts =>
    simp only [opE] at hr
    split at hr
    · rename_i e m bytes z hti
      obtain ⟨⟨xs, ks, d⟩, h1, hr⟩ := Option.bind_eq_some_iff.1 hr
      split at hr
      · rename_i hc
        simp only [Option.some.injEq] at hr; subst hr
        exact bsl_ok htt hI hS hU hkey hti h1 hc.1 hc.2.1 hc.2.2.1 rfl
      · simp at hr
    · simp at hr
  | load t x => exact pur hr rfl fun u hu => load_ok htt hI hU hu (ev 0 x).1
  | store t x v =>
    simp only [opE] at hr
    obtain ⟨u, hu, rfl⟩ := Option.map_eq_some_iff.1 hr
    have hx := ev 0 x
    have hv := ev t v
    unfold storeV at hu
    split at hu
    · rename_i k off ag vs he1 he2
      rw [he1] at hx
      rw [he2] at hv
      split at hu
      · rename_i tb cs hk
        split at hu
        · rename_i hc
          simp only [Option.some.injEq] at hu; subst hu
          exact store_bp htt hI hU hk hc.1 hc.2.2 hx.1 hv.1 hv.2 hc.2.1 rfl
        · simp at hu
      · simp at hu
    · rename_i k m i off ag vs he1 he2
      rw [he1] at hx
      rw [he2] at hv
      split at hu
      · rename_i e m' xs d hk
        obtain ⟨y, hy, hu⟩ := Option.bind_eq_some_iff.1 hu
        obtain ⟨ys, hys, hu⟩ := Option.bind_eq_some_iff.1 hu
        split at hu
        · rename_i hc
          simp only [Option.some.injEq] at hu; subst hu
          obtain ⟨rfl, hc1, hc2, hc3, hc4⟩ := hc
          exact store_rp htt hI hU hk (by omega) hy hys hc1 hc3 hx.1 hv.1 hc2 rfl
        · simp at hu
      · simp at hu
    · simp at hu
  | nilCheck x =>
    simp only [opE] at hr
    have hx := ev 0 x
    split at hr <;> simp only [Option.some.injEq, reduceCtorEq] at hr <;> subst hr <;> rename_i he <;> rw [he] at hx
    · obtain ⟨b, _, hv⟩ := hx.1
      exact fin_pure hI hU (cv := a.eval x) (by simp [execOp, hv]) hx.1 hx.2
    · obtain ⟨b, _, _, _, hv⟩ := hx.1
      exact fin_pure hI hU (cv := a.eval x) (by simp [execOp, hv]) hx.1 hx.2
    · obtain ⟨b, _, _, _, hv, _⟩ := hx.1
      exact fin_pure hI hU (cv := a.eval x) (by simp [execOp, hv]) hx.1 hx.2
    · obtain ⟨b, _, _, hv, _⟩ := pt_of hx.1
      exact fin_pure hI hU (cv := a.eval x) (by simp [execOp, hv]) hx.1 hx.2
  | binOp op t x y t' => exact pur hr rfl fun u hu => bino_ok htt hu (ev t x).1 (ev t y).1
  | unOp op t x => exact pur hr rfl fun u hu => un_ok hu (ev 0 x).1
  | convert s t x => exact pur hr rfl fun u hu => convO_ok htt hI hu (ev 0 x).1
  | makeSlice t n c =>
    simp only [opE] at hr
    have hn := (ev 0 n).1
    have hc := (ev 0 c).1
    unfold makeV at hr
    split at hr
    · rename_i n' c' he1 he2
      rw [he1] at hn
      rw [he2] at hc
      split at hr
      · rename_i e m bytes z hti
        obtain ⟨ze, hz, hr⟩ := Option.bind_eq_some_iff.1 hr
        split at hr
        · rename_i hq
          simp only [Option.some.injEq] at hr; subst hr
          obtain ⟨h0, rfl, h1⟩ := hq
          have e1 := int_of hn
          have e2 := int_of hc
          obtain ⟨n'', rfl⟩ := Int.eq_ofNat_of_zero_le h0
          simp only [Int.toNat_natCast]
          exact make_ok htt hI hU hkey hti hz (by omega) (by simp only [execOp, e1, e2])
        · simp at hr
      · simp at hr
    · simp at hr
  | slice t x lo hi mx =>
    cases mx with
    | some _ => simp [opE] at hr
    | none =>
      refine sliceU_ok (vlo := lo.map a.eval) (vhi := hi.map a.eval) htt hI hU hkey hr (ev 0 x).1 ?_ ?_ rfl
      · cases lo with
        | none => trivial
        | some y => exact (ev 0 y).1
      · cases hi with
        | none => trivial
        | some y => exact (ev 0 y).1
  | fieldAddr t x f =>
    simp only [opE] at hr
    split at hr
    · rename_i fs n z hti
      refine pur hr rfl fun u hu => ?_
      obtain ⟨fi, hf, hu⟩ := Option.bind_eq_some_iff.1 hu
      exact fad_ok htt hti hf hu (ev 0 x).1 (ev 0 x).2
    · simp at hr
  | field t x f =>
    simp only [opE] at hr
    split at hr
    · rename_i fs n z hti
      exact pur hr rfl fun u hu => fie_ok htt hti hu (ev 0 x).1 (ev 0 x).2
    · simp at hr
  | indexAddr t x i =>
    simp only [opE] at hr
    split at hr
    · rename_i e m bytes z hti
      exact pur hr rfl fun u hu => idx_ok htt hI hU hti hu (ev 0 x).1 (ev 0 x).2 (ev 0 i).1
    · simp at hr
  | index t x i => exact pur hr rfl fun u hu => idxs_ok htt hu (ev 0 x).1 (ev 0 i).1
  | makeFunc fn first caps =>
    cases fn with
    | func f =>
      simp only [opE] at hr
      split at hr
      · rename_i h0
        obtain ⟨q, hq, hr⟩ := Option.bind_eq_some_iff.1 hr
        split at hr
        · rename_i hn
          simp only [Option.some.injEq] at hr; subst hr
          have hf : first = #[] := by simpa using h0
          have hall : All2 (SVR g w) (caps.toList.map (st.ev tt 0)) (caps.toList.map a.eval) := All2.of_map _ _ fun x _ => (ev 0 x).1
          refine mkf_ok hI hU hq hn hall ?_
          have e1 : (caps.toList.map a.eval).toArray = caps.map a.eval := by apply Array.ext'; simp
          rw [e1]
          simp [execOp, Instr.makeFunc, hf]
        · simp at hr
      · simp at hr
    | _ => simp [opE] at hr
  | makeMap t res =>
    cases res with
    | none =>
      simp only [opE] at hr
      exact mkm_ok htt hI hU hkey hr rfl
    | some _ => simp [opE] at hr
  | lookup t x i ok => exact pur hr rfl fun u hu => look_ok htt hI hu (ev 0 x).1 (ev 0 i).1
  | mapUpdate t x i v =>
    simp only [opE] at hr
    obtain ⟨u, hu, rfl⟩ := Option.map_eq_some_iff.1 hr
    exact mup_ok htt hI hU hu (ev 0 x).1 (ev 0 i).1 (ev 0 v).1 rfl
  | extract x i => exact pur hr rfl fun u hu => ext_ok hu (ev 0 x).1 (ev 0 x).2
  | call c =>
    obtain ⟨callee, args, ts⟩ := c
    cases callee with
    | builtin b =>
      simp only [opE] at hr
      have hts : ∀ l : List TypeId, ts.toList = l → ts = l.toArray := fun l h => by rw [← h]
      have one : ∀ v, evs tt st ts.toList args.toList = [v] → ∃ x, args = #[x] ∧ SVR g w v (a.eval x) ∧ svU U v := fun v h => by
        obtain ⟨args⟩ := args
        generalize ts.toList = l at h
        cases args with
        | nil => cases l <;> simp [evs, zipT] at h
        | cons x xs =>
          cases xs with
          | nil =>
            refine ⟨x, rfl, ?_⟩
            cases l with
            | nil => simp only [evs, zipT, List.map_cons, List.map_nil, List.cons.injEq, and_true] at h; rw [← h]; exact ev _ _
            | cons t l => cases l <;> (simp only [evs, zipT, List.map_cons, List.map_nil, List.cons.injEq, and_true] at h; rw [← h]; exact ev _ _)
          | cons y ys => cases l with
            | nil => simp [evs, zipT] at h
            | cons t l => cases l <;> simp [evs, zipT] at h
      have two : ∀ v u, evs tt st ts.toList args.toList = [v, u] → ∃ x y, args = #[x, y] ∧ (SVR g w v (a.eval x) ∧ svU U v) ∧ SVR g w u (a.eval y) ∧ svU U u := fun v u h => by
        obtain ⟨args⟩ := args
        have h2 := congrArg List.length h
        have h3 : (evs tt st ts.toList args).length = args.length := by
          have := congrArg List.length (zipT_snd ts.toList args)
          simpa [evs] using this
        have h4 : args.length = 2 := by rw [← h3]; exact h2
        obtain ⟨x, y, rfl⟩ : ∃ x y, args = [x, y] := by
          match args, h4 with
          | [x, y], _ => exact ⟨x, y, rfl⟩
        refine ⟨x, y, rfl, ?_⟩
        have h5 : ∃ t1 t2, evs tt st ts.toList [x, y] = [st.ev tt t1 x, st.ev tt t2 y] := by
          generalize ts.toList = l
          cases l with
          | nil => exact ⟨0, 0, rfl⟩
          | cons t1 l => cases l with
            | nil => exact ⟨t1, 0, rfl⟩
            | cons t2 l => exact ⟨t1, t2, by cases l <;> rfl⟩
        obtain ⟨t1, t2, h5⟩ := h5
        rw [h5] at h
        simp only [List.cons.injEq, and_true] at h
        rw [← h.1, ← h.2]
        exact ⟨ev _ _, ev _ _⟩
      unfold bltV at hr
      split at hr
      · rename_i t _ v he1 he2
        have e1 := hts _ he1
        obtain ⟨x, rfl, hx, _⟩ := one _ he2
        exact pur (s := Builtin.len_ ts ty #[a.eval x]) hr (by simp [execOp, resolve, invoke, builtin]) fun u hu => len_ok htt hI (by simp [e1]) hu hx
      · rename_i t u v1 v2 he1 he2
        have e1 := hts _ he1
        obtain ⟨x, y, rfl, hx, hy⟩ := two _ _ he2
        split at hr
        · rename_i he
          subst he
          exact app_ok htt hI hU hkey hr hx hy (ty := ty) (by simp [execOp, resolve, invoke, builtin, e1])
        · simp at hr
      · rename_i v1 v2 he2
        obtain ⟨x, y, rfl, hx, hy⟩ := two _ _ he2
        refine pur (s := Builtin.max_ ts ty #[a.eval x, a.eval y]) hr (by simp [execOp, resolve, invoke, builtin]) fun u hu => ?_
        have := max_ok (P := P) (U := U) (ts := ts) (ty := ty) hu hx.1 hy.1
        simpa using this
      · rename_i v1 v2 he2
        obtain ⟨x, y, rfl, hx, hy⟩ := two _ _ he2
        refine pur (s := Builtin.min_ ts ty #[a.eval x, a.eval y]) hr (by simp [execOp, resolve, invoke, builtin]) fun u hu => ?_
        have := max_ok (P := P) (U := U) (ts := ts) (ty := ty) hu hx.1 hy.1
        simpa using this
      · simp at hr
    | value f => simp [opE] at hr
    | invoke r m => simp [opE] at hr
  | _ => simp [opE] at hr
end
end
end Go.Proofs.Ytnacpkmpdlodoaa
