/- Texts of this proof, joined: L13U, L13H, Q11, R11, S11, T11, U11, V11, W11, BInv, BRun, BOps1, BOps2, BOps3, BOps4, BOps5, BOps6, BOps7. What each holds is said at its theorems. -/
import Derived.Test.YtfbonanbiblkbaaLabelStepQ1
import Derived.Laws.CopyRow
import Derived.Laws.OwnMore
import Derived.Laws.StructEq
import Derived.Laws.Tables
import Derived.Great.BuildSlice
set_option linter.unusedSimpArgs false
set_option linter.unusedVariables false
namespace Go.Proofs.Ytfbonanbiblkbaa
theorem w_ints_self (a : List Int) : w_ints a a = some true := by
  unfold w_ints
  rw [if_neg (by simp)]
  rw [forL_allI (p := fun _ _ => true) (r := false)]
  · have : ∀ (l : List Int) (i : Nat), allI (fun _ _ => true) l i = true := by
      intro l
      induction l with
      | nil => intro i; rfl
      | cons x l ih => intro i; simp [allI, ih]
    rw [this]; rfl
  · intro j x hx
    have e : atI a (((0 + j : Nat)) : Int) = some x := by
      unfold atI
      rw [if_pos (by omega), Int.toNat_natCast, Nat.zero_add]
      exact hx
    rw [e]
    show (if (x != x) = true then _ else _) = _
    simp
theorem l13Sets_ok {c : l1CurD} (h : CurOk c) : ∃ l c', s_l13Sets c = some (l, c') ∧ l.length ≤ 6 ∧ Fit l ∧ CurOk c' := by
  unfold s_l13Sets
  obtain ⟨n, c1, e, n0, n1, hc⟩ := l1Below_ok h (n := 6) (by omega) (by omega)
  rw [e]
  show ∃ l c', iter _ _ = some (l, c') ∧ _
  have key : ∀ (k : Nat) (cc : l1CurD) (row : List Int), CurOk cc → row.length + k ≤ 5 → Fit row → ∃ l c', iter (σ := (List Int) × Int × Int × (List Int) × Int)
    (fun s =>
      match s with
      | (f_3, f_4, f_5, row_6, n_7) =>
      if (decide (0 < n_7)) = true then
        (s_l1Below ({ b := f_3, i := f_4, h := f_5 } : l1CurD) 16).bind fun v8 =>
        chk (row_6.length + 1 ≤ 1073741824) <|
        some (.inl (v8.2.b, v8.2.i, v8.2.h, (row_6 ++ [v8.1]), (IntKind.i64.wrap (n_7 - 1))))
      else
        (s_l1Once ({ b := f_3, i := f_4, h := f_5 } : l1CurD) 10).bind fun v9 =>
        if v9.1 = true then
          (s_l1Odd v9.2).bind fun v10 =>
          chk (row_6.length + 1 ≤ 1073741824) <|
          some (.inr ((row_6 ++ [v10.1]), v10.2))
        else
          some (.inr (row_6, v9.2)))
    (cc.b, cc.i, cc.h, row, ((k : Nat) : Int)) = some (l, c') ∧ l.length ≤ 6 ∧ Fit l ∧ CurOk c' := by
    intro k
    induction k with
    | zero =>
      intro cc row hcc hl hf
      obtain ⟨b, c2, e2, hc2⟩ := l1Once_ok hcc (n := 10) (by omega) (by omega)
      rw [iter_eq]
      simp only [Int.natCast_zero, Int.lt_irrefl, decide_false, Bool.false_eq_true, if_false]
      rw [show ({ b := cc.b, i := cc.i, h := cc.h } : l1CurD) = cc from rfl, e2]
      cases b with
      | false => exact ⟨row, c2, rfl, by omega, hf, hc2⟩
      | true =>
        obtain ⟨x, c3, e3, hx, hc3⟩ := l1Odd_ok hc2
        simp only [Option.bind_some, if_true]
        rw [e3]
        simp only [Option.bind_some]
        rw [chk_pos _ (by omega)]
        refine ⟨row ++ [x], c3, rfl, by simp; omega, fun y hy => ?_, hc3⟩
        rcases List.mem_append.1 hy with hy | hy
        · exact hf y hy
        · simp at hy; subst hy; exact hx
    | succ k ih =>
      intro cc row hcc hl hf
      obtain ⟨x, c2, e2, hx0, hx1, hc2⟩ := l1Below_ok hcc (n := 16) (by omega) (by omega)
      rw [iter_eq]
      have hpos : decide (0 < (((k + 1 : Nat)) : Int)) = true := decide_eq_true (by omega)
      simp only [hpos, if_true]
      rw [show ({ b := cc.b, i := cc.i, h := cc.h } : l1CurD) = cc from rfl, e2]
      simp only [Option.bind_some]
      rw [chk_pos _ (by omega)]
      have hw : IntKind.i64.wrap ((((k + 1 : Nat)) : Int) - 1) = ((k : Nat) : Int) := by rw [wrap_ok (by omega) (by omega)]; omega
      rw [hw]
      refine ih c2 (row ++ [x]) hc2 (by simp; omega) fun y hy => ?_
      rcases List.mem_append.1 hy with hy | hy
      · exact hf y hy
      · simp at hy; subst hy; omega
  have e5 : n = ((n.toNat : Nat) : Int) := by omega
  have := key n.toNat c1 [] hc (by simp; omega) (fun y hy => by simp at hy)
  rw [← e5] at this
  exact this
theorem DrawUnionsOf_ok (code : List Int) (h : code.length ≤ 4096) : ∃ a b, s_DrawUnionsOf code = some (a, b) ∧ a.length ≤ 6 ∧ b.length ≤ 6 ∧ Fit a ∧ Fit b := by
  obtain ⟨c, e1, h1⟩ := l1New_ok code h
  obtain ⟨a, c1, e2, a1, a2, h2⟩ := l13Sets_ok h1
  obtain ⟨b, c2, e3, b1, b2, h3⟩ := l13Sets_ok h2
  refine ⟨a, b, ?_, a1, b1, a2, b2⟩
  unfold s_DrawUnionsOf
  rw [e1]; simp only [Option.bind_some]; rw [e2]; simp only [Option.bind_some]; rw [e3]; rfl
theorem DrawLeastSets_ok (code : List Int) (h : code.length ≤ 4096) : ∃ a, s_DrawLeastSets code = some a ∧ a.length ≤ 6 ∧ Fit a := by
  obtain ⟨c, e1, h1⟩ := l1New_ok code h
  obtain ⟨a, c1, e2, a1, a2, h2⟩ := l13Sets_ok h1
  refine ⟨a, ?_, a1, a2⟩
  unfold s_DrawLeastSets
  rw [e1]; simp only [Option.bind_some]; rw [e2]; rfl
theorem un_comm (A B : Nat → Prop) : Cof (Un A B) (Un B A) := Cof.of fun n ⟨x, y, hx, hy, e⟩ => ⟨y, x, hy, hx, by rw [e, Nat.or_comm]⟩
theorem FnUnions_plain (code : List Int) : w_FnUnions code = some true := by
  unfold w_FnUnions w_big
  simp only [Option.bind_some]
  cases hd : decide (4096 < ((code.length : Nat) : Int)) with
  | true => rfl
  | false =>
  have hlen : code.length ≤ 4096 := by simp at hd; omega
  rw [if_neg (by simp)]
  obtain ⟨a, b, e1, a1, b1, fa, fb⟩ := DrawUnionsOf_ok code hlen
  obtain ⟨c, e2, c1, fc⟩ := DrawLeastSets_ok code hlen
  have mul : ∀ {x y p q : Nat}, x ≤ p → y ≤ q → x * y ≤ p * q := fun h1 h2 => Nat.mul_le_mul h1 h2
  obtain ⟨ab, e3, k1, f1, l1⟩ := i_UnionsOf_can a b (by have := mul a1 b1; omega) fa fb
  obtain ⟨ba, e4, k2, f2, l2⟩ := i_UnionsOf_can b a (by have := mul b1 a1; omega) fb fa
  have lab : ab.length ≤ 36 := by have := mul a1 b1; omega
  obtain ⟨abc, e5, k3, f3, l3⟩ := i_UnionsOf_can ab c (by have := mul lab c1; omega) f1 fc
  obtain ⟨bc, e6, k4, f4, l4⟩ := i_UnionsOf_can b c (by have := mul b1 c1; omega) fb fc
  have lbc : bc.length ≤ 36 := by have := mul b1 c1; omega
  obtain ⟨abc', e7, k5, f5, l5⟩ := i_UnionsOf_can a bc (by have := mul a1 lbc; omega) fa f4
  obtain ⟨aa, e8, k6, f6, l6⟩ := i_UnionsOf_can a a (by have := mul a1 a1; omega) fa fa
  obtain ⟨la, e9, k7, _, _⟩ := i_LeastSets_can a (by omega) fa
  obtain ⟨lc, e10, k8, m8, l8⟩ := i_LeastSets_can c (by omega) fc
  have flc : Fit lc := fun x hx => fc x (m8 x hx)
  obtain ⟨llc, e11, k9, _, _⟩ := i_LeastSets_can lc (by omega) flc
  have q1 : ab = ba := k1.eq k2 (un_comm _ _) (un_comm _ _)
  have assoc1 : Cof (Un (Un (memP a) (memP b)) (memP c)) (Un (memP a) (Un (memP b) (memP c))) := Cof.of fun n ⟨u, z, ⟨x, y, hx, hy, eu⟩, hz, e⟩ => ⟨x, y ||| z, hx, ⟨y, z, hy, hz, rfl⟩, by rw [e, eu, Nat.or_assoc]⟩
  have assoc2 : Cof (Un (memP a) (Un (memP b) (memP c))) (Un (Un (memP a) (memP b)) (memP c)) := Cof.of fun n ⟨x, u, hx, ⟨y, z, hy, hz, eu⟩, e⟩ => ⟨x ||| y, z, ⟨x, y, hx, hy, rfl⟩, hz, by rw [e, eu, Nat.or_assoc]⟩
  have idc : ∀ A : Nat → Prop, Cof A A := fun A => Cof.of fun _ h => h
  have q2 : abc = abc' := k3.eq k5 (((Un.cof k1.cof' (idc _)).trans assoc1).trans (Un.cof (idc _) k4.cof)) (((Un.cof (idc _) k4.cof').trans assoc2).trans (Un.cof k1.cof (idc _)))
  have q3 : aa = la := k6.eq k7 (fun n ⟨x, y, hx, hy, e⟩ => ⟨x, hx, by rw [e]; exact part_orl x y⟩) (Cof.of fun n hn => ⟨n, n, hn, hn, by rw [Nat.or_self]⟩)
  have q4 : llc = lc := k9.eq k8 k8.cof' k8.cof
  subst q1 q2 q3 q4
  rw [e1]
  simp only [Option.bind_some]
  rw [e2]
  simp only [Option.bind_some]
  rw [e3]
  simp only [Option.bind_some]
  rw [e4]
  simp only [Option.bind_some, w_ints_self, if_true]
  rw [e5]
  simp only [Option.bind_some]
  rw [e6]
  simp only [Option.bind_some]
  rw [e7]
  simp only [Option.bind_some, w_ints_self, if_true]
  rw [e8]
  simp only [Option.bind_some]
  rw [e9]
  simp only [Option.bind_some, w_ints_self, if_true]
  rw [e10]
  simp only [Option.bind_some]
  have inner : ∀ x ∈ c, forL (σ := Bool)
      (fun (i47 : Nat) (x48 : Int) u_43 =>
        if u_43 = true then
          some (.inl true)
        else
          (i_IsPart x48 x).bind fun v49 =>
          some (.inl v49))
      (fun u_43 =>
        if u_43 = true then
          some (Sum.inl ())
        else
          some (Sum.inr false))
      llc 0 (decide (x < 0)) = some (Sum.inl () : Unit ⊕ Bool) := fun x hx => by
    rw [forL_fold' (f := fun u t => u || partB t x)]
    · have hfold : ∀ (q : List Int) (u : Bool), q.foldl (fun u t => u || partB t x) u = (u || q.any fun t => partB t x) := by
        intro q
        induction q with
        | nil => intro u; simp
        | cons t q ih => intro u; rw [List.foldl_cons, ih]; simp [Bool.or_assoc]
      rw [hfold]
      have : (decide (x < 0) || llc.any fun t => partB t x) = true := by
        by_cases hx0 : x < 0
        · simp [hx0]
        · have h0 : 0 ≤ x := by omega
          obtain ⟨m, rfl⟩ := Int.eq_ofNat_of_zero_le h0
          obtain ⟨y, hy, p⟩ := k8.cof m hx
          rw [Bool.or_eq_true]
          right
          rw [List.any_eq_true]
          exact ⟨((y : Nat) : Int), hy, (partB_iff (flc _ hy) (fc _ hx)).2 ⟨by omega, h0, by simpa using p⟩⟩
      rw [this]; rfl
    · intro i t u _
      cases u <;> simp [i_IsPart_eq]
  rw [forL_all (p := fun _ => true) (r := false) (fun i x hx => by rw [inner x hx]; rfl)]
  rw [if_pos (by simp), e11]
  simp only [Option.bind_some, w_ints_self]
end Go.Proofs.Ytfbonanbiblkbaa

namespace Go.Proofs.Ytfbonanbiblkbaa
/-- a loop that counts up to a bound -/
theorem iter_range {σ ρ : Type} {body : σ × Int → Option ((σ × Int) ⊕ ρ)} {f : σ → Nat → σ} {fin : σ → Option ρ} (I : Nat → σ → Prop) (m : Nat)
    (h1 : ∀ k s, k < m → I k s → body (s, ((k : Nat) : Int)) = some (.inl (f s k, ((k + 1 : Nat) : Int))) ∧ I (k + 1) (f s k))
    (h2 : ∀ s, I m s → body (s, ((m : Nat) : Int)) = (fin s).bind fun x => some (.inr x)) :
    ∀ (d k : Nat) (s : σ), k + d = m → I k s → iter body (s, ((k : Nat) : Int)) = fin ((List.range' k d).foldl f s)
  | 0, k, s, hk, hI => by
    have e : k = m := by omega
    subst e
    rw [iter_eq, h2 s hI]
    show _ = fin s
    cases fin s <;> rfl
  | d + 1, k, s, hk, hI => by
    obtain ⟨e1, e2⟩ := h1 k s (by omega) hI
    rw [iter_eq, e1]
    show iter body (f s k, ((k + 1 : Nat) : Int)) = _
    rw [iter_range I m h1 h2 d (k + 1) (f s k) (by omega) e2]
    rfl
theorem shl_pow {n : Int} (h0 : 0 ≤ n) (h1 : n ≤ 6) : shlI .i64 1 n = ((2 ^ n.toNat : Nat) : Int) ∧ 2 ^ n.toNat ≤ 64 := by
  obtain ⟨m, rfl⟩ := Int.eq_ofNat_of_zero_le h0
  have hm : m = 0 ∨ m = 1 ∨ m = 2 ∨ m = 3 ∨ m = 4 ∨ m = 5 ∨ m = 6 := by omega
  rcases hm with rfl | rfl | rfl | rfl | rfl | rfl | rfl <;> decide
theorem andI_comm (x y : Int) : andI .i64 x y = andI .i64 y x := by
  unfold andI
  rw [BitVec.and_comm]
def hitB (l : List Int) (u : Int) : Bool := l.all fun x => andI .i64 u x != 0
def hitF (l : List Int) (row : List Int) (k : Nat) : List Int := if hitB l ((k : Nat) : Int) then row ++ [((k : Nat) : Int)] else row
theorem hitF_len (l row : List Int) (k : Nat) : (hitF l row k).length ≤ row.length + 1 := by
  unfold hitF; split <;> simp
def hitL (l : List Int) (m : Nat) : List Int := (List.range' 0 m).foldl (hitF l) []
theorem hitL_fold (l : List Int) : ∀ (q : List Nat) (row : List Int), (q.foldl (hitF l) row).length ≤ row.length + q.length ∧ ∀ y, y ∈ q.foldl (hitF l) row ↔ y ∈ row ∨ ∃ k ∈ q, y = ((k : Nat) : Int) ∧ hitB l ((k : Nat) : Int) = true
  | [], row => ⟨by simp, fun y => by simp⟩
  | k :: q, row => by
    obtain ⟨h1, h2⟩ := hitL_fold l q (hitF l row k)
    refine ⟨by have := hitF_len l row k; simp at h1 ⊢; omega, fun y => ?_⟩
    rw [List.foldl_cons, h2]
    have h3 : y ∈ hitF l row k ↔ y ∈ row ∨ (y = ((k : Nat) : Int) ∧ hitB l ((k : Nat) : Int) = true) := by
      unfold hitF
      split
      · rename_i hc; simp [hc]
      · rename_i hc; simp [hc]
    rw [h3]
    constructor
    · rintro ((h | ⟨h, h'⟩) | ⟨j, hj, h⟩)
      · exact .inl h
      · exact .inr ⟨k, by simp, h, h'⟩
      · exact .inr ⟨j, by simp [hj], h⟩
    · rintro (h | ⟨j, hj, h⟩)
      · exact .inl (.inl h)
      · rcases List.mem_cons.1 hj with rfl | hj
        · exact .inl (.inr h)
        · exact .inr ⟨j, hj, h⟩
theorem hitL_spec (l : List Int) (m : Nat) : (hitL l m).length ≤ m ∧ ∀ y, y ∈ hitL l m ↔ ∃ k, k < m ∧ y = ((k : Nat) : Int) ∧ hitB l ((k : Nat) : Int) = true := by
  obtain ⟨h1, h2⟩ := hitL_fold l (List.range' 0 m) []
  refine ⟨by simpa [hitL] using h1, fun y => ?_⟩
  show y ∈ (List.range' 0 m).foldl (hitF l) [] ↔ _
  rw [h2]
  simp
/-- the sets of a list fit below a bound -/
def inB (m : Nat) (l : List Int) : Bool := l.all fun x => decide (0 ≤ x) && decide (x < ((m : Nat) : Int))
theorem inB_iff {m : Nat} {l : List Int} : inB m l = true ↔ ∀ x ∈ l, 0 ≤ x ∧ x < ((m : Nat) : Int) := by
  simp [inB, List.all_eq_true]
theorem i_Hit_run (l : List Int) (n : Int) : i_HittingSets l n = if 0 ≤ n ∧ n ≤ 6 ∧ inB (2 ^ n.toNat) l = true then i_LeastSets (hitL l (2 ^ n.toNat)) else some [] := by
  unfold i_HittingSets
  by_cases h0 : n < 0
  · rw [if_pos (by simpa using h0), if_neg (by omega)]
  rw [if_neg (by simpa using h0)]
  by_cases h1 : 6 < n
  · rw [if_pos (by simpa using h1), if_neg (by omega)]
  rw [if_neg (by simpa using h1)]
  obtain ⟨e, e64⟩ := shl_pow (n := n) (by omega) (by omega)
  rw [forL_all (p := fun x => decide (0 ≤ x) && decide (x < ((2 ^ n.toNat : Nat) : Int))) (r := [])]
  · rw [show (l.all fun x => decide (0 ≤ x) && decide (x < ((2 ^ n.toNat : Nat) : Int))) = inB (2 ^ n.toNat) l from rfl]
    cases hB : inB (2 ^ n.toNat) l with
    | false => simp
    | true =>
      rw [if_pos rfl, if_pos ⟨by omega, by omega, rfl⟩, chk_pos _ h0]
      refine (iter_range (f := hitF l) (fin := fun row => i_LeastSets row) (fun k row => row.length ≤ k) (2 ^ n.toNat) ?_ ?_ (2 ^ n.toNat) 0 [] (by omega) (by simp))
      · intro k row hk hI
        refine ⟨?_, by have := hitF_len l row k; omega⟩
        rw [e]
        show (if decide (((k : Nat) : Int) < ((2 ^ n.toNat : Nat) : Int)) = true then _ else _) = _
        rw [if_pos (by simp only [decide_eq_true_eq]; omega)]
        rw [forL_fold' (f := fun s x => s && (andI .i64 ((k : Nat) : Int) x != 0)), fold1]
        · have hw : IntKind.i64.wrap (((k : Nat) : Int) + 1) = ((k + 1 : Nat) : Int) := by rw [wrap_ok (by omega) (by omega)]; omega
          rw [hw]
          rw [show (true && l.all fun x => andI .i64 ((k : Nat) : Int) x != 0) = hitB l ((k : Nat) : Int) by simp [hitB]]
          unfold hitF
          cases hitB l ((k : Nat) : Int) with
          | false => simp
          | true => simp only [if_true]; rw [chk_pos _ (by omega)]
        · intro i x s _
          cases s <;> simp
      · intro row _
        rw [e]
        show (if decide (((2 ^ n.toNat : Nat) : Int) < ((2 ^ n.toNat : Nat) : Int)) = true then _ else _) = _
        rw [if_neg (by simp)]
  · intro i x _
    rw [e]
    by_cases hx : x < 0
    · rw [if_pos (by simpa using hx), show (decide (0 ≤ x)) = false by simp; omega]; rfl
    · rw [if_neg (by simpa using hx), chk_pos _ h0, show (decide (0 ≤ x)) = true by simp; omega]
      by_cases hy : ((2 ^ n.toNat : Nat) : Int) ≤ x
      · rw [if_pos (by simpa using hy), show (decide (x < ((2 ^ n.toNat : Nat) : Int))) = false by simp only [decide_eq_false_iff_not]; omega]; rfl
      · rw [if_neg (by simpa using hy), show (decide (x < ((2 ^ n.toNat : Nat) : Int))) = true by simp only [decide_eq_true_eq]; omega]; rfl
theorem s_In_eq (x a b : Int) : s_l1In x a b = some (decide (a ≤ x) && decide (x ≤ b)) := by
  unfold s_l1In
  cases decide (a ≤ x) <;> simp
theorem s_Hit_run (l : List Int) (n : Int) : s_HittingSets l n = if 0 ≤ n ∧ n ≤ 6 ∧ inB (2 ^ n.toNat) l = true then s_LeastSets (hitL l (2 ^ n.toNat)) else some [] := by
  unfold s_HittingSets
  rw [s_In_eq]
  simp only [Option.bind_some]
  by_cases h0 : n < 0
  · rw [if_neg (by simp; omega), if_neg (by omega)]
  by_cases h1 : 6 < n
  · rw [if_neg (by simp; omega), if_neg (by omega)]
  rw [if_pos (by simp; omega)]
  obtain ⟨e, e64⟩ := shl_pow (n := n) (by omega) (by omega)
  rw [forL_all (p := fun x => decide (0 ≤ x) && decide (x < ((2 ^ n.toNat : Nat) : Int))) (r := [])]
  · rw [show (l.all fun x => decide (0 ≤ x) && decide (x < ((2 ^ n.toNat : Nat) : Int))) = inB (2 ^ n.toNat) l from rfl]
    cases hB : inB (2 ^ n.toNat) l with
    | false => simp
    | true =>
      rw [if_pos rfl, if_pos ⟨by omega, by omega, rfl⟩]
      refine (iter_range (f := hitF l) (fin := fun row => s_LeastSets row) (fun k row => row.length ≤ k) (2 ^ n.toNat) ?_ ?_ (2 ^ n.toNat) 0 [] (by omega) (by simp))
      · intro k row hk hI
        refine ⟨?_, by have := hitF_len l row k; omega⟩
        rw [e]
        show chk _ (if decide (((k : Nat) : Int) < ((2 ^ n.toNat : Nat) : Int)) = true then _ else _) = _
        rw [chk_pos _ h0, if_pos (by simp only [decide_eq_true_eq]; omega)]
        rw [forL_fold' (f := fun s x => s && (andI .i64 ((k : Nat) : Int) x != 0)), fold1]
        · have hw : IntKind.i64.wrap (((k : Nat) : Int) + 1) = ((k + 1 : Nat) : Int) := by rw [wrap_ok (by omega) (by omega)]; omega
          rw [hw]
          rw [show (true && l.all fun x => andI .i64 ((k : Nat) : Int) x != 0) = hitB l ((k : Nat) : Int) by simp [hitB]]
          unfold hitF
          cases hitB l ((k : Nat) : Int) with
          | false => simp
          | true => simp only [if_true]; rw [chk_pos _ (by omega)]
        · intro i x s _
          rw [andI_comm x]
          cases s <;> simp
      · intro row _
        rw [e]
        show chk _ (if decide (((2 ^ n.toNat : Nat) : Int) < ((2 ^ n.toNat : Nat) : Int)) = true then _ else _) = _
        rw [chk_pos _ h0, if_neg (by simp)]
  · intro i x _
    have e0 : 0 ≤ ((2 ^ n.toNat : Nat) : Int) := Int.natCast_nonneg _
    have e6 : ((2 ^ n.toNat : Nat) : Int) ≤ 64 := Int.ofNat_le.2 e64
    rw [e, chk_pos _ h0, s_In_eq, wrap_ok (by omega) (by omega)]
    simp only [Option.bind_some]
    rw [show decide (x ≤ ((2 ^ n.toNat : Nat) : Int) - 1) = decide (x < ((2 ^ n.toNat : Nat) : Int)) by
      rw [Bool.eq_iff_iff]; simp only [decide_eq_true_eq]; omega]
    cases decide (0 ≤ x) && decide (x < ((2 ^ n.toNat : Nat) : Int)) <;> simp
theorem hitL_small (l : List Int) {n : Int} (h0 : 0 ≤ n) (h1 : n ≤ 6) : (hitL l (2 ^ n.toNat)).length ≤ 64 := by
  have := (hitL_spec l (2 ^ n.toNat)).1
  have := (shl_pow h0 h1).2
  omega
theorem s_Hit_same (l : List Int) (n : Int) : s_HittingSets l n = i_HittingSets l n := by
  rw [s_Hit_run, i_Hit_run]
  by_cases h : 0 ≤ n ∧ n ≤ 6 ∧ inB (2 ^ n.toNat) l = true
  · rw [if_pos h, if_pos h, s_LeastSets_as _ (by have := hitL_small l h.1 h.2.1; omega)]
  · rw [if_neg h, if_neg h]
theorem i_Hit_none {l : List Int} {n : Int} (h : ¬ (0 ≤ n ∧ n ≤ 6 ∧ inB (2 ^ n.toNat) l = true)) : i_HittingSets l n = some [] := by
  rw [i_Hit_run, if_neg h]
theorem hitB_iff {l : List Int} {m k : Nat} (hm : m ≤ 64) (hl : ∀ x ∈ l, 0 ≤ x ∧ x < ((m : Nat) : Int)) (hk : k < m) : hitB l ((k : Nat) : Int) = true ↔ ∀ x, memP l x → meets k x := by
  simp only [hitB, List.all_eq_true, bne_iff_ne, ne_eq]
  constructor
  · intro h x hx
    have h1 := h _ hx
    have h2 := hl _ hx
    rw [andI_nat (by omega) (by omega)] at h1
    show k &&& x ≠ 0
    omega
  · intro h x hx
    obtain ⟨h1, h2⟩ := hl x hx
    obtain ⟨y, rfl⟩ := Int.eq_ofNat_of_zero_le h1
    have h3 : k &&& y ≠ 0 := h y hx
    rw [andI_nat (by omega) (by omega)]
    omega
/-- the program's sets that hit -/
theorem i_Hit_can {l : List Int} {n : Int} (h0 : 0 ≤ n) (h1 : n ≤ 6) (hl : ∀ x ∈ l, 0 ≤ x ∧ x < ((2 ^ n.toNat : Nat) : Int)) : ∃ r, i_HittingSets l n = some r ∧ Canon r (Hit n.toNat (memP l)) ∧ (∀ y ∈ r, 0 ≤ y ∧ y < ((2 ^ n.toNat : Nat) : Int)) ∧ r.length ≤ 64 := by
  obtain ⟨e, e64⟩ := shl_pow (n := n) h0 h1
  obtain ⟨a1, a2⟩ := hitL_spec l (2 ^ n.toNat)
  have hF : Fit (hitL l (2 ^ n.toNat)) := fun y hy => by
    obtain ⟨k, hk, rfl, _⟩ := (a2 y).1 hy
    omega
  obtain ⟨r, r1, r2, r3, r4⟩ := i_LeastSets_can (hitL l (2 ^ n.toNat)) (by omega) hF
  refine ⟨r, by rw [i_Hit_run, if_pos ⟨h0, h1, inB_iff.2 hl⟩]; exact r1, ⟨r2.1, fun y => ?_⟩, fun y hy => ?_, by omega⟩
  · rw [r2.2]
    have key : ∀ s, memP (hitL l (2 ^ n.toNat)) s ↔ Hit n.toNat (memP l) s := fun s => by
      show ((s : Nat) : Int) ∈ _ ↔ _
      rw [a2]
      constructor
      · rintro ⟨k, hk, ek, hb⟩
        have : s = k := by omega
        subst this
        exact ⟨hk, (hitB_iff e64 hl hk).1 hb⟩
      · rintro ⟨hs, hb⟩
        exact ⟨s, hs, rfl, (hitB_iff e64 hl hs).2 hb⟩
    rw [min_ext (Cof.of fun n hn => (key n).1 hn) (Cof.of fun n hn => (key n).2 hn)]
  · obtain ⟨k, hk, rfl, _⟩ := (a2 y).1 (r3 y hy)
    omega
theorem DrawHittingSets_ok (code : List Int) (h : code.length ≤ 4096) : ∃ l n, s_DrawHittingSets code = some (l, n) ∧ l.length ≤ 5 ∧ (∀ x ∈ l, 0 ≤ x ∧ x < 17) ∧ n ≤ 7 := by
  obtain ⟨c, e1, h1⟩ := l1New_ok code h
  obtain ⟨n, c1, e, n0, n1, hc⟩ := l1Below_ok h1 (n := 5) (by omega) (by omega)
  unfold s_DrawHittingSets
  rw [e1]; simp only [Option.bind_some]; rw [e]; simp only [Option.bind_some]
  have key : ∀ (k : Nat) (cc : l1CurD) (row : List Int), CurOk cc → row.length + k ≤ 5 → (∀ x ∈ row, 0 ≤ x ∧ x < 17) → ∃ l n, iter (σ := (List Int) × Int × Int × (List Int) × Int)
    (fun s =>
      match s with
      | (f_4, f_5, f_6, row_7, n_8) =>
      if (decide (0 < n_8)) = true then
        (s_l1Below ({ b := f_4, i := f_5, h := f_6 } : l1CurD) 17).bind fun v9 =>
        chk (row_7.length + 1 ≤ 1073741824) <|
        some (.inl (v9.2.b, v9.2.i, v9.2.h, (row_7 ++ [v9.1]), (IntKind.i64.wrap (n_8 - 1))))
      else
        (s_l1Int ({ b := f_4, i := f_5, h := f_6 } : l1CurD) [(-1), 0, 3, 4, 4, 4, 5, 6, 7]).bind fun v10 =>
        some (.inr (row_7, v10.1)))
    (cc.b, cc.i, cc.h, row, ((k : Nat) : Int)) = some (l, n) ∧ l.length ≤ 5 ∧ (∀ x ∈ l, 0 ≤ x ∧ x < 17) ∧ n ≤ 7 := by
    intro k
    induction k with
    | zero =>
      intro cc row hcc hl hf
      obtain ⟨x, c2, e2, hx, hc2⟩ := l1Int_ok hcc (l := [(-1), 0, 3, 4, 4, 4, 5, 6, 7]) (by simp) (by simp)
      rw [iter_eq]
      simp only [Int.natCast_zero, Int.lt_irrefl, decide_false, Bool.false_eq_true, if_false]
      rw [show ({ b := cc.b, i := cc.i, h := cc.h } : l1CurD) = cc from rfl, e2]
      exact ⟨row, x, rfl, by omega, hf, by simp at hx; omega⟩
    | succ k ih =>
      intro cc row hcc hl hf
      obtain ⟨x, c2, e2, hx0, hx1, hc2⟩ := l1Below_ok hcc (n := 17) (by omega) (by omega)
      rw [iter_eq]
      have hpos : decide (0 < (((k + 1 : Nat)) : Int)) = true := decide_eq_true (by omega)
      simp only [hpos, if_true]
      rw [show ({ b := cc.b, i := cc.i, h := cc.h } : l1CurD) = cc from rfl, e2]
      simp only [Option.bind_some]
      rw [chk_pos _ (by omega)]
      have hw : IntKind.i64.wrap ((((k + 1 : Nat)) : Int) - 1) = ((k : Nat) : Int) := by rw [wrap_ok (by omega) (by omega)]; omega
      rw [hw]
      refine ih c2 (row ++ [x]) hc2 (by simp; omega) fun y hy => ?_
      rcases List.mem_append.1 hy with hy | hy
      · exact hf y hy
      · simp at hy; subst hy; omega
  have e5 : n = ((n.toNat : Nat) : Int) := by omega
  have := key n.toNat c1 [] hc (by simp; omega) (fun y hy => by simp at hy)
  rw [← e5] at this
  exact this
theorem FnHitting_plain (code : List Int) : w_FnHitting code = some true := by
  unfold w_FnHitting w_big
  simp only [Option.bind_some]
  cases hd : decide (4096 < ((code.length : Nat) : Int)) with
  | true => rfl
  | false =>
  have hlen : code.length ≤ 4096 := by simp at hd; omega
  rw [if_neg (by simp)]
  obtain ⟨l, n, e1, l1, l2, n7⟩ := DrawHittingSets_ok code hlen
  rw [e1]
  simp only [Option.bind_some]
  by_cases h0 : n < 0
  · rw [if_pos (by simpa using h0), i_Hit_none (by omega)]; rfl
  rw [if_neg (by simpa using h0)]
  by_cases h1 : 6 < n
  · rw [if_pos (by simpa using h1), i_Hit_none (by omega)]; rfl
  rw [if_neg (by simpa using h1)]
  obtain ⟨e, e64⟩ := shl_pow (n := n) (by omega) (by omega)
  rw [e]
  rw [forL_any (p := fun x => decide (((2 ^ n.toNat : Nat) : Int) ≤ x)) (r := true)]
  · cases hA : l.any fun x => decide (((2 ^ n.toNat : Nat) : Int) ≤ x) with
    | true => rfl
    | false =>
      rw [if_neg (by simp)]
      have hl : ∀ x ∈ l, 0 ≤ x ∧ x < ((2 ^ n.toNat : Nat) : Int) := fun x hx => by
        refine ⟨(l2 x hx).1, ?_⟩
        have := List.any_eq_false.1 hA x hx
        simp only [decide_eq_true_eq] at this
        omega
      have hfit : Fit l := fun x hx => by have := hl x hx; omega
      obtain ⟨r, r1, r2, r3, r4⟩ := i_Hit_can (l := l) (n := n) (by omega) (by omega) hl
      obtain ⟨q, q1, q2, q3, q4⟩ := i_Hit_can (l := r) (n := n) (by omega) (by omega) r3
      obtain ⟨ls, s1, s2, _, _⟩ := i_LeastSets_can l (by omega) hfit
      have hlt : ∀ x, memP l x → x < 2 ^ n.toNat := fun x hx => by have := hl _ hx; omega
      have hh : ∀ t, Hit n.toNat (memP r) t ↔ t < 2 ^ n.toNat ∧ ∃ x, memP l x ∧ partN x t := fun t => by
        rw [← hit_hit hlt]
        exact ⟨hit_cof r2.cof, hit_cof r2.cof'⟩
      have eq : q = ls := q2.eq s2 (fun t ht => by obtain ⟨_, x, hx, p⟩ := (hh t).1 ht; exact ⟨x, hx, p⟩) (fun x hx => ⟨x, (hh x).2 ⟨hlt x hx, x, hx, part_refl x⟩, part_refl x⟩)
      subst eq
      rw [s_Hit_same]
      simp only [r1, Option.bind_some, q1, s1, w_ints_self]
      simp
  · intro i x hx
    rw [chk_pos _ h0]
    cases hp : decide (((2 ^ n.toNat : Nat) : Int) ≤ x) with
    | false => simp
    | true =>
      rw [if_pos rfl, i_Hit_none]
      · rfl
      · rintro ⟨_, _, h3⟩
        have := inB_iff.1 h3 x hx
        simp only [decide_eq_true_eq] at hp
        omega
end Go.Proofs.Ytfbonanbiblkbaa

namespace Go.Proofs.Ytfbonanbiblkbaa
structure Lab (l : List Bool) (n : Nat) (D : Int → Prop) : Prop where
  len : l.length = n
  iff : ∀ i : Nat, i < n → (l[i]? = some true ↔ D ((i : Nat) : Int))
theorem Lab.at {l : List Bool} {n : Nat} {D : Int → Prop} (h : Lab l n D) {y : Int} (h0 : 0 ≤ y) (h1 : y.toNat < n) : ∃ b, l[y.toNat]? = some b ∧ (b = true ↔ D y) := by
  have hl : y.toNat < l.length := by rw [h.len]; exact h1
  refine ⟨l[y.toNat], List.getElem?_eq_getElem hl, ?_⟩
  have := h.iff y.toNat h1
  rw [List.getElem?_eq_getElem hl, Option.some.injEq, Int.toNat_of_nonneg h0] at this
  exact this
theorem Lab.eq {l l' : List Bool} {n : Nat} {D D' : Int → Prop} (h : Lab l n D) (h' : Lab l' n D') (hD : ∀ x, D x ↔ D' x) : l = l' := by
  apply List.ext_getElem?
  intro i
  by_cases hi : i < n
  · have h1 := h.iff i hi
    have h2 := h'.iff i hi
    have q1 : i < l.length := by rw [h.len]; exact hi
    have q2 : i < l'.length := by rw [h'.len]; exact hi
    rw [List.getElem?_eq_getElem q1] at h1 ⊢
    rw [List.getElem?_eq_getElem q2] at h2 ⊢
    rw [hD, ← h2] at h1
    simp only [Option.some.injEq] at h1
    rw [Bool.eq_iff_iff.2 h1]
  · rw [List.getElem?_eq_none (by rw [h.len]; omega), List.getElem?_eq_none (by rw [h'.len]; omega)]
theorem i_labels_eq {b : BeliefsD} (h0 : 0 ≤ b.nodes) (h1 : b.nodes ≤ 1000) (hl : b.reasons.length ≤ 1000000) (hR : ∀ r ∈ b.reasons, OkR b.nodes.toNat r) : ∃ l, i_labels b = some l ∧ Lab l b.nodes.toNat (Der b.reasons) := by
  obtain ⟨row, e1, e2⟩ := i_rounds_eq h0 h1 hl hR
  refine ⟨row.map fun v => decide (0 ≤ v), ?_, by simp [e2.len], fun i hi => ?_⟩
  · unfold i_labels
    rw [e1, Option.bind_some, forL_map (g := fun v => decide (0 ≤ v))]
    · rfl
    · intro j x s _ hs
      have := e2.len
      rw [chk_pos _ (by simp at hs; omega)]
  · rw [← e2.iff i hi, List.getElem?_map]
    simp only [Option.map_eq_some_iff, decide_eq_true_eq]
/- the bits of a set -/
theorem shr_nat {s i : Nat} (h : s ≤ 9223372036854775807) : shrI .i64 ((s : Nat) : Int) ((i : Nat) : Int) = ((s >>> i : Nat) : Int) := by
  unfold shrI
  have hb : IntKind.i64.bits = 64 := rfl
  rw [Int.toNat_natCast, hb, Int.fdiv_eq_ediv_of_nonneg _ (by exact Int.le_of_lt (Int.pow_pos (by omega)))]
  rw [Nat.shiftRight_eq_div_pow]
  by_cases hi : i ≤ 64
  · rw [Nat.min_eq_left hi]
    push_cast
    rfl
  · rw [Nat.min_eq_right (by omega)]
    have e1 : s / 2 ^ i = 0 := Nat.div_eq_of_lt (Nat.lt_of_lt_of_le (show s < 2 ^ 64 by omega) (Nat.pow_le_pow_right (by omega) (by omega)))
    have e2 : ((s : Nat) : Int) / (2 ^ 64 : Int) = 0 := Int.ediv_eq_zero_of_lt (by omega) (by omega)
    rw [e1]
    exact e2
theorem bit_eq {s i : Nat} (h : s ≤ 9223372036854775807) : (andI .i64 (shrI .i64 ((s : Nat) : Int) ((i : Nat) : Int)) 1 == 1) = s.testBit i := by
  have h2 : s >>> i ≤ 9223372036854775807 := Nat.le_trans (by rw [Nat.shiftRight_eq_div_pow]; exact Nat.div_le_self _ _) h
  rw [shr_nat h, show (1 : Int) = ((1 : Nat) : Int) from rfl, andI_nat h2 (by omega)]
  rw [Nat.testBit_eq_decide_div_mod_eq, Nat.and_one_is_mod, Nat.shiftRight_eq_div_pow]
  rw [Bool.eq_iff_iff]
  simp only [beq_iff_eq, decide_eq_true_eq]
  omega
/-- the elements of a list whose places are in a set -/
def chosenL : List Int → Nat → Nat → List Int
  | [], _, _ => []
  | x :: l, s, i => if s.testBit i = true then x :: chosenL l s (i + 1) else chosenL l s (i + 1)
theorem chosenL_len (s : Nat) : ∀ (l : List Int) (i : Nat), (chosenL l s i).length ≤ l.length
  | [], _ => by simp [chosenL]
  | x :: l, i => by
    have := chosenL_len s l (i + 1)
    simp only [chosenL]
    split <;> simp <;> omega
theorem mem_chosenL {s : Nat} {x : Int} : ∀ {l : List Int} {i : Nat}, x ∈ chosenL l s i ↔ ∃ j, l[j]? = some x ∧ s.testBit (i + j) = true
  | [], i => ⟨fun h => by simp [chosenL] at h, fun ⟨j, h, _⟩ => by simp at h⟩
  | y :: l, i => by
    have ih := mem_chosenL (s := s) (x := x) (l := l) (i := i + 1)
    have key : (∃ j, l[j]? = some x ∧ s.testBit (i + 1 + j) = true) ↔ ∃ j, (y :: l)[j + 1]? = some x ∧ s.testBit (i + (j + 1)) = true :=
      ⟨fun ⟨j, h1, h2⟩ => ⟨j, by simpa using h1, by rw [show i + (j + 1) = i + 1 + j by omega]; exact h2⟩, fun ⟨j, h1, h2⟩ => ⟨j, by simpa using h1, by rw [show i + 1 + j = i + (j + 1) by omega]; exact h2⟩⟩
    simp only [chosenL]
    constructor
    · intro h
      split at h
      · rename_i hb
        rcases List.mem_cons.1 h with rfl | h
        · exact ⟨0, by simp, by simpa using hb⟩
        · obtain ⟨j, h1, h2⟩ := key.1 (ih.1 h); exact ⟨j + 1, h1, h2⟩
      · obtain ⟨j, h1, h2⟩ := key.1 (ih.1 h); exact ⟨j + 1, h1, h2⟩
    · rintro ⟨j, h1, h2⟩
      cases j with
      | zero =>
        simp at h1; subst h1
        rw [if_pos (by simpa using h2)]; simp
      | succ j =>
        have := ih.2 (key.2 ⟨j, h1, h2⟩)
        split
        · simp [this]
        · exact this
theorem i_chosen_eq (l : List Int) {s : Nat} (h : s ≤ 9223372036854775807) (hl : l.length ≤ 1000000) : i_chosen l ((s : Nat) : Int) = some (chosenL l s 0) := by
  unfold i_chosen
  rw [forL_rec (fun l i acc => some (acc ++ chosenL l s i)) (fun l i acc => acc.length + l.length ≤ 1000000) (fun i acc _ => by simp [chosenL]) (fun x l i acc hI => by
    left
    simp only [List.length_cons] at hI
    rw [chk_pos _ (by omega)]
    simp only [bit_eq h]
    by_cases hb : s.testBit i = true
    · rw [if_pos hb, chk_pos _ (by omega)]
      exact ⟨_, rfl, by simp; omega, by simp [chosenL, hb]⟩
    · rw [if_neg hb]
      exact ⟨_, rfl, by omega, by simp [chosenL, hb]⟩) l 0 [] (by simpa using hl)]
  simp
def premOf (x : Int) : ReasonD := { for_ := x, inn := [], outs := [] }
/-- a valid frame -/
structure FrOk (f : FrameD) : Prop where
  n0 : 0 ≤ f.beliefs.nodes
  n1 : f.beliefs.nodes ≤ 24
  r1 : f.beliefs.reasons.length ≤ 60
  R : ∀ r ∈ f.beliefs.reasons, OkR f.beliefs.nodes.toNat r
  a1 : f.assumed.length ≤ 6
  a : ∀ x ∈ f.assumed, 0 ≤ x ∧ x.toNat < f.beliefs.nodes.toNat
  b : ∀ x ∈ f.bad, 0 ≤ x ∧ x.toNat < f.beliefs.nodes.toNat
  asc : f.assumed.Pairwise (· < ·)
  inn : ∀ r ∈ f.beliefs.reasons, r.inn.Pairwise (· < ·)
theorem asc_small {n : Nat} {l : List Int} (h : l.Pairwise (· < ·)) (hb : ∀ x ∈ l, 0 ≤ x ∧ x.toNat < n) : l.length ≤ n := by
  have : ∀ (l : List Int) (lo : Int), l.Pairwise (· < ·) → (∀ x ∈ l, lo ≤ x ∧ x < n) → (l.length : Int) ≤ max 0 (n - lo) := by
    intro l
    induction l with
    | nil => intro lo _ _; simp; omega
    | cons x l ih =>
      intro lo hp hb
      rw [List.pairwise_cons] at hp
      have h1 := hb x (by simp)
      have := ih (x + 1) hp.2 fun y my => ⟨by have := hp.1 y my; omega, (hb y (by simp [my])).2⟩
      simp only [List.length_cons]
      omega
  have := this l 0 h fun x mx => by have := hb x mx; omega
  omega
theorem copyInts_eq (l : List Int) (h : l.length ≤ 1073741824) : i_copyInts l = some l := by
  unfold i_copyInts
  rw [chk_pos _ h]
theorem i_copyBeliefs_eq {b : BeliefsD} (hr : b.reasons.length ≤ 1000000) (h : ∀ r ∈ b.reasons, r.inn.length ≤ 1073741824 ∧ r.outs.length ≤ 1073741824) : i_copyBeliefs b = some b := by
  unfold i_copyBeliefs
  rw [forL_map (g := fun r => r)]
  · simp
  · intro j r s mr hs
    obtain ⟨h1, h2⟩ := h r mr
    unfold i_copyReason
    rw [copyInts_eq _ h1, copyInts_eq _ h2]
    simp only [Option.bind_some]
    rw [chk_pos _ (by simp at hs; omega)]
/-- under a set: reasons, and the assumptions of the set -/
def RF (f : FrameD) (s : Nat) : List ReasonD := f.beliefs.reasons ++ (chosenL f.assumed s 0).map premOf
def UnF (f : FrameD) (s : Nat) (x : Int) : Prop := Der (RF f s) x
theorem FrOk.RF {f : FrameD} (h : FrOk f) (s : Nat) : ∀ r ∈ RF f s, OkR f.beliefs.nodes.toNat r := fun r mr => by
  rcases List.mem_append.1 mr with m | m
  · exact h.R r m
  · obtain ⟨x, mx, rfl⟩ := List.mem_map.1 m
    obtain ⟨j, h1, _⟩ := mem_chosenL.1 mx
    have := h.a x (List.mem_of_getElem? h1)
    exact ⟨this.1, this.2, by simp [premOf], rfl⟩
theorem FrOk.small {f : FrameD} (h : FrOk f) : ∀ r ∈ f.beliefs.reasons, r.inn.length ≤ 1073741824 ∧ r.outs.length ≤ 1073741824 := fun r mr => by
  have h1 := asc_small (h.inn r mr) (h.R r mr).2.2.1
  have h2 := (h.R r mr).2.2.2
  have := h.n1
  rw [h2]
  simp
  omega
theorem i_under_eq {f : FrameD} (h : FrOk f) {s : Nat} (hs : s ≤ 9223372036854775807) : ∃ l, i_under f ((s : Nat) : Int) = some l ∧ Lab l f.beliefs.nodes.toNat (UnF f s) := by
  have hc := chosenL_len s f.assumed 0
  have h1 := h.a1
  have h2 := h.r1
  have h3 := h.n1
  have hl : (RF f s).length ≤ 66 := by simp [RF]; omega
  obtain ⟨l, e1, e2⟩ := i_labels_eq (b := { nodes := f.beliefs.nodes, reasons := RF f s }) h.n0 (by show f.beliefs.nodes ≤ 1000; omega) (by show (RF f s).length ≤ _; omega) (h.RF s)
  refine ⟨l, ?_, e2⟩
  unfold i_under
  rw [i_copyBeliefs_eq (by omega) h.small, Option.bind_some, i_chosen_eq _ hs (by omega), Option.bind_some, forL_map (g := premOf)]
  · show (i_labels { nodes := f.beliefs.nodes, reasons := RF f s }).bind _ = _
    rw [e1]; rfl
  · intro j x q _ hq
    rw [chk_pos _ (by omega)]
    rfl
theorem UnF.mono {f : FrameD} {s t : Nat} (h : partN s t) {x : Int} (hx : UnF f s x) : UnF f t x := by
  refine Der.mono (fun r mr => ?_) hx
  rcases List.mem_append.1 mr with m | m
  · exact List.mem_append.2 (.inl m)
  · obtain ⟨y, my, rfl⟩ := List.mem_map.1 m
    obtain ⟨j, h1, h2⟩ := mem_chosenL.1 my
    exact List.mem_append.2 (.inr (List.mem_map.2 ⟨y, mem_chosenL.2 ⟨j, h1, part_iff.1 h _ h2⟩, rfl⟩))
theorem UnF_iff {f : FrameD} {s : Nat} {x : Int} : UnF f s x ↔ (∃ i, f.assumed[i]? = some x ∧ s.testBit i = true) ∨ ∃ r ∈ f.beliefs.reasons, r.for_ = x ∧ ∀ y ∈ r.inn, UnF f s y := by
  constructor
  · intro h
    cases h with
    | mk r hr hi =>
      rcases List.mem_append.1 hr with m | m
      · exact .inr ⟨r, m, rfl, hi⟩
      · obtain ⟨y, my, rfl⟩ := List.mem_map.1 m
        obtain ⟨j, h1, h2⟩ := mem_chosenL.1 my
        exact .inl ⟨j, h1, by simpa using h2⟩
  · rintro (⟨i, h1, h2⟩ | ⟨r, h1, rfl, h3⟩)
    · exact .mk (premOf x) (List.mem_append.2 (.inr (List.mem_map.2 ⟨x, mem_chosenL.2 ⟨i, h1, by simpa using h2⟩, rfl⟩))) (by simp [premOf])
    · exact .mk r (List.mem_append.2 (.inl h1)) h3
def Cons (f : FrameD) (s : Nat) : Prop := ∀ y ∈ f.bad, ¬ UnF f s y
theorem Cons.anti {f : FrameD} {s t : Nat} (h : partN s t) (hc : Cons f t) : Cons f s := fun y my hy => hc y my (hy.mono h)
open Classical in
theorem i_noneIn_eq {l : List Bool} {n : Nat} {D : Int → Prop} (h : Lab l n D) {q : List Int} (hq : ∀ x ∈ q, 0 ≤ x ∧ x.toNat < n) : i_noneIn q l = some (decide (∀ y ∈ q, ¬ D y)) := by
  unfold i_noneIn
  rw [forL_all (p := fun y => decide (¬ D y)) (r := false)]
  · have : q.all (fun y => decide (¬ D y)) = decide (∀ y ∈ q, ¬ D y) := by
      rw [Bool.eq_iff_iff]; simp
    rw [this]
    by_cases hh : ∀ y ∈ q, ¬ D y
    · rw [decide_eq_true hh]; rfl
    · rw [decide_eq_false hh]; rfl
  · intro i x mx
    obtain ⟨h0, h1⟩ := hq x mx
    obtain ⟨b, e1, e2⟩ := h.at h0 h1
    have ha : atI l x = some b := by unfold atI; rw [if_pos h0]; exact e1
    rw [ha, Option.bind_some]
    by_cases hD : D x
    · rw [e2.2 hD]; simp [hD]
    · have : b = false := by cases b with
        | false => rfl
        | true => exact absurd (e2.1 rfl) hD
      rw [this]; simp [hD]
end Go.Proofs.Ytfbonanbiblkbaa

namespace Go.Proofs.Ytfbonanbiblkbaa
def ascP (l : List Int) (n : Int) (i : Nat) (x : Int) : Bool := decide (0 ≤ x) && (decide (x < n) && (decide (i = 0) || (match l[i - 1]? with | some y => decide (y < x) | none => false)))
def ascB (l : List Int) (n : Int) : Bool := allI (ascP l n) l 0
theorem prev_at {l : List Int} {j : Nat} {x : Int} (hl : l.length ≤ 1000000000) (hj : l[j]? = some x) (h0 : 0 < j) : ∃ y, l[j - 1]? = some y ∧ atI l (IntKind.i64.wrap (((j : Nat) : Int) - 1)) = some y := by
  have hlt := (List.getElem?_eq_some_iff.1 hj).1
  have hg : l[j - 1]? = some l[j - 1] := List.getElem?_eq_getElem (by omega)
  refine ⟨l[j - 1], hg, ?_⟩
  have hw : IntKind.i64.wrap (((j : Nat) : Int) - 1) = ((j - 1 : Nat) : Int) := by rw [wrap_ok (by omega) (by omega)]; omega
  rw [hw]
  unfold atI
  rw [if_pos (by omega), Int.toNat_natCast, hg]
theorem i_asc_eq (l : List Int) (n : Int) (hl : l.length ≤ 1000000000) : i_ascendingNodes l n = some (ascB l n) := by
  unfold i_ascendingNodes ascB
  rw [forL_allI (p := ascP l n) (r := false)]
  · cases allI (ascP l n) l 0 <;> rfl
  · intro j x hj
    rw [Nat.zero_add]
    unfold ascP
    by_cases h1 : x < 0
    · rw [if_pos (by simpa using h1), show decide (0 ≤ x) = false by simp; omega]; rfl
    · rw [if_neg (by simpa using h1), show decide (0 ≤ x) = true by simp; omega]
      by_cases h2 : n ≤ x
      · rw [if_pos (by simpa using h2), show decide (x < n) = false by simp; omega]; rfl
      · rw [if_neg (by simpa using h2), show decide (x < n) = true by simp; omega]
        by_cases h3 : j = 0
        · subst h3; rfl
        · obtain ⟨y, e1, e2⟩ := prev_at hl hj (by omega)
          rw [if_pos (by simp; omega), e2, Option.bind_some, e1]
          by_cases h4 : x ≤ y
          · rw [if_pos (by simpa using h4)]
            simp [h3, show ¬ y < x by omega]
          · rw [if_neg (by simpa using h4)]
            simp [h3, show y < x by omega]
theorem s_list_gen (l : List Int) (n : Int) (hl : l.length ≤ 1000000000) : s_l11List l n = some (ascB l (IntKind.i64.wrap (n - 1) + 1)) := by
  unfold s_l11List ascB
  generalize IntKind.i64.wrap (n - 1) = m
  rw [forL_allI (p := ascP l (m + 1)) (r := false)]
  · cases allI (ascP l (m + 1)) l 0 <;> rfl
  · intro j x hj
    rw [Nat.zero_add, s_In_eq, Option.bind_some]
    unfold ascP
    by_cases h1 : x < 0
    · rw [show decide (0 ≤ x) = false by simp; omega]; rfl
    · rw [show decide (0 ≤ x) = true by simp; omega]
      by_cases h2 : m < x
      · rw [show decide (x ≤ m) = false by simp; omega, show decide (x < m + 1) = false by simp; omega]; rfl
      · rw [show decide (x ≤ m) = true by simp; omega, show decide (x < m + 1) = true by simp; omega]
        by_cases h3 : j = 0
        · subst h3; rfl
        · obtain ⟨y, e1, e2⟩ := prev_at hl hj (by omega)
          rw [show (true && true) = true from rfl, if_pos rfl, if_pos (by simp; omega), e2, Option.bind_some, e1]
          by_cases h4 : x ≤ y
          · rw [if_pos (by simpa using h4)]
            simp [h3, show ¬ y < x by omega]
          · rw [if_neg (by simpa using h4)]
            simp [h3, show y < x by omega]
theorem s_list_eq (l : List Int) (n : Int) (hl : l.length ≤ 1000000000) (h0 : 0 ≤ n) (h1 : n ≤ 1000000000) : s_l11List l n = some (ascB l n) := by
  rw [s_list_gen l n hl, wrap_ok (by omega) (by omega)]
  congr 2
  omega
theorem asc_of {l : List Int} {n : Int} (h : ascB l n = true) : (∀ x ∈ l, 0 ≤ x ∧ x < n) ∧ l.Pairwise (· < ·) := by
  have key : ∀ (j : Nat) (x : Int), l[j]? = some x → ascP l n j x = true := fun j x hj => by
    have := allI_at h j x hj
    rwa [Nat.zero_add] at this
  refine ⟨fun x mx => ?_, ?_⟩
  · obtain ⟨j, hj⟩ := List.mem_iff_getElem?.1 mx
    have := key j x hj
    simp only [ascP, Bool.and_eq_true, decide_eq_true_eq] at this
    exact ⟨this.1, this.2.1⟩
  · have step : ∀ j (h1 : j + 1 < l.length), l[j]'(by omega) < l[j + 1] := fun j h1 => by
      have := key (j + 1) _ (List.getElem?_eq_getElem h1)
      simp only [ascP, Bool.and_eq_true, decide_eq_true_eq, Bool.or_eq_true, Nat.add_sub_cancel] at this
      rw [List.getElem?_eq_getElem (show j < l.length by omega)] at this
      rcases this.2.2 with h2 | h2
      · omega
      · simpa using h2
    rw [List.pairwise_iff_getElem]
    intro i j hi hj hij
    obtain ⟨d, rfl⟩ : ∃ d, j = i + 1 + d := ⟨j - i - 1, by omega⟩
    induction d with
    | zero => exact step i hj
    | succ d ih => exact Int.lt_trans (ih (by omega) (by omega)) (step (i + 1 + d) (by omega))
theorem asc_to {l : List Int} {n : Int} (h1 : ∀ x ∈ l, 0 ≤ x ∧ x < n) (h2 : l.Pairwise (· < ·)) : ascB l n = true := by
  have key : ∀ (q pre : List Int), l = pre ++ q → allI (ascP l n) q pre.length = true := by
    intro q
    induction q with
    | nil => intro _ _; rfl
    | cons x q ih =>
      intro pre e
      simp only [allI, Bool.and_eq_true]
      refine ⟨?_, ?_⟩
      · have hx := h1 x (by rw [e]; simp)
        simp only [ascP, Bool.and_eq_true, decide_eq_true_eq, Bool.or_eq_true]
        refine ⟨hx.1, hx.2, ?_⟩
        by_cases h0 : pre.length = 0
        · exact .inl h0
        · right
          have hlt : pre.length - 1 < pre.length := by omega
          have hg : l[pre.length - 1]? = some pre[pre.length - 1] := by rw [e, List.getElem?_append_left hlt, List.getElem?_eq_getElem hlt]
          rw [hg]
          rw [e, List.pairwise_append] at h2
          simpa using h2.2.2 _ (List.getElem_mem hlt) x (by simp)
      · have := ih (pre ++ [x]) (by rw [e]; simp)
        simpa using this
  exact key l [] rfl
def okRB (n : Int) (r : ReasonD) : Bool := decide (0 ≤ r.for_) && (decide (r.for_ < n) && (ascB r.inn n && ascB r.outs n))
def isBeliefsB (b : BeliefsD) : Bool := decide (0 ≤ b.nodes) && (decide (b.nodes ≤ 24) && (decide (b.reasons.length ≤ 60) && b.reasons.all (okRB b.nodes)))
def SmallB (b : BeliefsD) : Prop := ∀ r ∈ b.reasons, r.inn.length ≤ 1000000000 ∧ r.outs.length ≤ 1000000000
theorem i_IsBeliefs_eq {b : BeliefsD} (h : SmallB b) (hl : b.reasons.length ≤ 1000000000) : i_IsBeliefs b = some (isBeliefsB b) := by
  unfold i_IsBeliefs isBeliefsB
  by_cases h0 : b.nodes < 0
  · rw [if_pos (by simpa using h0), show decide (0 ≤ b.nodes) = false by simp; omega]; rfl
  rw [if_neg (by simpa using h0), show decide (0 ≤ b.nodes) = true by simp; omega]
  by_cases h1 : 24 < b.nodes
  · rw [if_pos (by simpa using h1), show decide (b.nodes ≤ 24) = false by simp; omega]; rfl
  rw [if_neg (by simpa using h1), show decide (b.nodes ≤ 24) = true by simp; omega]
  by_cases h2 : 60 < b.reasons.length
  · rw [if_pos (by simp; omega), show decide (b.reasons.length ≤ 60) = false by simp; omega]; rfl
  rw [if_neg (by simp; omega), show decide (b.reasons.length ≤ 60) = true by simp; omega]
  simp only [Bool.true_and]
  rw [forL_all (p := okRB b.nodes) (r := false)]
  · cases b.reasons.all (okRB b.nodes) <;> rfl
  · intro i r mr
    obtain ⟨s1, s2⟩ := h r mr
    unfold okRB
    by_cases q1 : r.for_ < 0
    · rw [if_pos (by simpa using q1), show decide (0 ≤ r.for_) = false by simp; omega]; rfl
    rw [if_neg (by simpa using q1), show decide (0 ≤ r.for_) = true by simp; omega]
    by_cases q2 : b.nodes ≤ r.for_
    · rw [if_pos (by simpa using q2), show decide (r.for_ < b.nodes) = false by simp; omega]; rfl
    rw [if_neg (by simpa using q2), show decide (r.for_ < b.nodes) = true by simp; omega, i_asc_eq _ _ s1, i_asc_eq _ _ s2]
    simp only [Option.bind_some, Bool.true_and]
    cases ascB r.inn b.nodes <;> cases ascB r.outs b.nodes <;> rfl
theorem s_IsBeliefs_eq {b : BeliefsD} (h : SmallB b) (hl : b.reasons.length ≤ 1000000000) : s_IsBeliefs b = some (isBeliefsB b) := by
  unfold s_IsBeliefs isBeliefsB
  by_cases hn : 0 ≤ b.nodes ∧ b.nodes ≤ 24
  · have hw : IntKind.i64.wrap (b.nodes - 1) = b.nodes - 1 := wrap_ok (by omega) (by omega)
    rw [forL_all (p := okRB b.nodes) (r := false)]
    · rw [s_In_eq, show decide (0 ≤ b.nodes) = true by simp; omega, show decide (b.nodes ≤ 24) = true by simp; omega]
      simp only [Option.bind_some, Bool.and_self, if_true, Bool.true_and]
      have hc : decide (((b.reasons.length : Nat) : Int) ≤ 60) = decide (b.reasons.length ≤ 60) := by rw [Bool.eq_iff_iff]; simp; omega
      rw [hc]
      cases b.reasons.all (okRB b.nodes) <;> cases decide (b.reasons.length ≤ 60) <;> rfl
    · intro i r mr
      obtain ⟨s1, s2⟩ := h r mr
      rw [s_In_eq, hw, s_list_eq _ _ s1 hn.1 (by omega), s_list_eq _ _ s2 hn.1 (by omega)]
      unfold okRB
      have hc : decide (r.for_ ≤ b.nodes - 1) = decide (r.for_ < b.nodes) := by rw [Bool.eq_iff_iff]; simp; omega
      rw [hc]
      simp only [Option.bind_some]
      cases decide (0 ≤ r.for_) <;> cases decide (r.for_ < b.nodes) <;> cases ascB r.inn b.nodes <;> cases ascB r.outs b.nodes <;> rfl
  · have hf : (decide (0 ≤ b.nodes) && (decide (b.nodes ≤ 24) && (decide (b.reasons.length ≤ 60) && b.reasons.all (okRB b.nodes)))) = false := by
      by_cases h0 : 0 ≤ b.nodes
      · have : decide (b.nodes ≤ 24) = false := by simp; omega
        rw [this]; simp
      · have : decide (0 ≤ b.nodes) = false := by simp; omega
        rw [this]; simp
    rw [hf, forL_all (p := fun r => decide (0 ≤ r.for_) && (decide (r.for_ ≤ IntKind.i64.wrap (b.nodes - 1)) && (ascB r.inn (IntKind.i64.wrap (b.nodes - 1) + 1) && ascB r.outs (IntKind.i64.wrap (b.nodes - 1) + 1)))) (r := false)]
    · rw [s_In_eq]
      have : (decide (0 ≤ b.nodes) && decide (b.nodes ≤ 24)) = false := by
        cases h1 : decide (0 ≤ b.nodes) <;> cases h2 : decide (b.nodes ≤ 24) <;> simp at h1 h2 ⊢
        omega
      rw [this]
      split <;> rfl
    · intro i r mr
      obtain ⟨s1, s2⟩ := h r mr
      rw [s_In_eq, s_list_gen _ _ s1, s_list_gen _ _ s2]
      simp only [Option.bind_some]
      cases decide (0 ≤ r.for_) <;> cases decide (r.for_ ≤ IntKind.i64.wrap (b.nodes - 1)) <;> cases ascB r.inn (IntKind.i64.wrap (b.nodes - 1) + 1) <;> cases ascB r.outs (IntKind.i64.wrap (b.nodes - 1) + 1) <;> rfl
def noOut (r : ReasonD) : Bool := decide (r.outs = [])
def isFrameB (f : FrameD) : Bool := isBeliefsB f.beliefs && (decide (f.assumed.length ≤ 6) && (ascB f.assumed f.beliefs.nodes && (ascB f.bad f.beliefs.nodes && f.beliefs.reasons.all noOut)))
structure SmallF (f : FrameD) : Prop where
  b : SmallB f.beliefs
  r : f.beliefs.reasons.length ≤ 1000000000
  a : f.assumed.length ≤ 1000000000
  bad : f.bad.length ≤ 1000000000
theorem outs_loop {ρ : Type} {fin : Unit → Option ρ} {l : List ReasonD} {z : ρ} : forL (σ := Unit) (fun (_ : Nat) (x8 : ReasonD) _ => if (decide (0 < ((x8.outs.length : Nat) : Int))) = true then some (.inr z) else some (.inl ())) fin l 0 () = if l.all noOut = true then fin () else some z := by
  refine forL_all fun i r mr => ?_
  unfold noOut
  cases h : r.outs with
  | nil => simp
  | cons x q => simp
theorem i_IsFrame_eq {f : FrameD} (h : SmallF f) : i_IsFrame f = some (isFrameB f) := by
  unfold i_IsFrame isFrameB
  rw [i_IsBeliefs_eq h.b h.r, i_asc_eq _ _ h.a, i_asc_eq _ _ h.bad]
  simp only [Option.bind_some]
  rw [outs_loop]
  have hc : decide (6 < ((f.assumed.length : Nat) : Int)) = !decide (f.assumed.length ≤ 6) := by rw [Bool.eq_iff_iff]; simp; omega
  rw [hc]
  cases isBeliefsB f.beliefs <;> cases decide (f.assumed.length ≤ 6) <;> cases ascB f.assumed f.beliefs.nodes <;> cases ascB f.bad f.beliefs.nodes <;> cases f.beliefs.reasons.all noOut <;> rfl
theorem s_IsFrame_eq {f : FrameD} (h : SmallF f) : s_IsFrame f = some (isFrameB f) := by
  unfold s_IsFrame isFrameB
  rw [s_IsBeliefs_eq h.b h.r, outs_loop]
  simp only [Option.bind_some]
  have hc : decide (((f.assumed.length : Nat) : Int) ≤ 6) = decide (f.assumed.length ≤ 6) := by rw [Bool.eq_iff_iff]; simp; omega
  rw [hc]
  cases hb : isBeliefsB f.beliefs with
  | false => cases f.beliefs.reasons.all noOut <;> rfl
  | true =>
    have hn : 0 ≤ f.beliefs.nodes ∧ f.beliefs.nodes ≤ 24 := by
      simp only [isBeliefsB, Bool.and_eq_true, decide_eq_true_eq] at hb
      exact ⟨hb.1, hb.2.1⟩
    rw [s_list_eq _ _ h.a hn.1 (by omega), s_list_eq _ _ h.bad hn.1 (by omega)]
    simp only [Option.bind_some, if_true]
    cases decide (f.assumed.length ≤ 6) <;> cases ascB f.assumed f.beliefs.nodes <;> cases ascB f.bad f.beliefs.nodes <;> cases f.beliefs.reasons.all noOut <;> rfl
theorem FrOk.of {f : FrameD} (h : isFrameB f = true) : FrOk f := by
  simp only [isFrameB, isBeliefsB, Bool.and_eq_true, decide_eq_true_eq] at h
  obtain ⟨⟨h1, h2, h3, h4⟩, h5, h6, h7, h8⟩ := h
  have hn : ∀ {x : Int}, 0 ≤ x → x < f.beliefs.nodes → x.toNat < f.beliefs.nodes.toNat := fun {x} a b => by omega
  have ha := asc_of h6
  have hb := asc_of h7
  have hr : ∀ r ∈ f.beliefs.reasons, OkR f.beliefs.nodes.toNat r ∧ r.inn.Pairwise (· < ·) := fun r mr => by
    have := List.all_eq_true.1 h4 r mr
    simp only [okRB, Bool.and_eq_true, decide_eq_true_eq] at this
    obtain ⟨q1, q2, q3, q4⟩ := this
    have q5 := List.all_eq_true.1 h8 r mr
    simp only [noOut, decide_eq_true_eq] at q5
    exact ⟨⟨q1, hn q1 q2, fun y my => ⟨((asc_of q3).1 y my).1, hn ((asc_of q3).1 y my).1 ((asc_of q3).1 y my).2⟩, q5⟩, (asc_of q3).2⟩
  exact ⟨h1, h2, h3, fun r mr => (hr r mr).1, h5, fun x mx => ⟨(ha.1 x mx).1, hn (ha.1 x mx).1 (ha.1 x mx).2⟩, fun x mx => ⟨(hb.1 x mx).1, hn (hb.1 x mx).1 (hb.1 x mx).2⟩, ha.2, fun r mr => (hr r mr).2⟩
end Go.Proofs.Ytfbonanbiblkbaa

namespace Go.Proofs.Ytfbonanbiblkbaa
def gB (row : List Bool) (y : Int) : Bool := (row[y.toNat]?).getD false
def stepF (row : List Bool) (r : ReasonD) : List Bool := row.set r.for_.toNat (gB row r.for_ || r.inn.all (gB row))
def passF (R : List ReasonD) (row : List Bool) : List Bool := R.foldl stepF row
def leB (a b : List Bool) : Prop := ∀ i : Nat, a[i]? = some true → b[i]? = some true
theorem leB.refl (a : List Bool) : leB a a := fun _ h => h
theorem leB.trans {a b c : List Bool} (h1 : leB a b) (h2 : leB b c) : leB a c := fun i h => h2 i (h1 i h)
theorem gB_iff {row : List Bool} {y : Int} : gB row y = true ↔ row[y.toNat]? = some true := by
  unfold gB
  cases h : row[y.toNat]? with
  | none => simp
  | some b => simp
theorem leB.g {a b : List Bool} (h : leB a b) {y : Int} (hy : gB a y = true) : gB b y = true := gB_iff.2 (h _ (gB_iff.1 hy))
theorem set_at {row : List Bool} {k i : Nat} {b : Bool} : (row.set k b)[i]? = if k = i ∧ i < row.length then some b else row[i]? := by
  rw [List.getElem?_set]
  by_cases h1 : k = i
  · by_cases h2 : i < row.length
    · rw [if_pos h1, if_pos (by omega), if_pos ⟨h1, h2⟩]
    · rw [if_pos h1, if_neg (by omega), if_neg (fun h => h2 h.2), List.getElem?_eq_none (by omega)]
  · rw [if_neg h1, if_neg (fun h => h1 h.1)]
theorem stepF_le (row : List Bool) (r : ReasonD) : leB row (stepF row r) := fun i h => by
  unfold stepF
  rw [set_at]
  split
  · rename_i hc
    obtain ⟨rfl, _⟩ := hc
    have : gB row r.for_ = true := gB_iff.2 h
    rw [this]; rfl
  · exact h
theorem passF_le : ∀ (R : List ReasonD) (row : List Bool), leB row (passF R row)
  | [], row => leB.refl row
  | r :: R, row => by rw [passF, List.foldl_cons]; exact (stepF_le row r).trans (passF_le R _)
theorem stepF_len (row : List Bool) (r : ReasonD) : (stepF row r).length = row.length := by simp [stepF]
theorem passF_len : ∀ (R : List ReasonD) (row : List Bool), (passF R row).length = row.length
  | [], _ => rfl
  | r :: R, row => by rw [passF, List.foldl_cons]; exact (passF_len R _).trans (stepF_len row r)
theorem passF_has {n : Nat} : ∀ {R : List ReasonD} {row : List Bool}, row.length = n → ∀ r ∈ R, r.for_.toNat < n → (∀ y ∈ r.inn, gB row y = true) → gB (passF R row) r.for_ = true
  | q :: R, row, hl, r, hr, hf, hi => by
    rw [passF, List.foldl_cons]
    rcases List.mem_cons.1 hr with rfl | hr
    · refine (passF_le R _).g ?_
      have : r.inn.all (gB row) = true := List.all_eq_true.2 hi
      rw [gB_iff, stepF, set_at, if_pos ⟨rfl, by omega⟩, this, Bool.or_true]
    · exact passF_has (by rw [stepF_len, hl]) r hr hf fun y my => (stepF_le row q).g (hi y my)
def cntB (l : List Bool) : Nat := l.countP id
theorem cnt_le : ∀ {a b : List Bool}, a.length = b.length → leB a b → cntB a ≤ cntB b ∧ (a ≠ b → cntB a < cntB b)
  | [], [], _, _ => ⟨Nat.le_refl _, fun h => absurd rfl h⟩
  | x :: a, y :: b, hl, h => by
    have ih := cnt_le (a := a) (b := b) (by simpa using hl) fun i hi => by have := h (i + 1) (by simpa using hi); simpa using this
    have h0 : x = true → y = true := fun e => by have := h 0 (by simp [e]); simpa using this
    simp only [cntB, List.countP_cons, id] at ih ⊢
    cases x <;> cases y <;> simp at h0 ⊢
    · exact ih
    · refine ⟨by omega, by omega⟩
    · exact ih
  | [], _ :: _, hl, _ => by simp at hl
  | _ :: _, [], hl, _ => by simp at hl
theorem pass_fix {R : List ReasonD} {n : Nat} : ∀ (q : List Nat) (row : List Bool), row.length = n → n < cntB row + q.length → passF R (q.foldl (fun r _ => passF R r) row) = q.foldl (fun r _ => passF R r) row
  | [], row, hl, h => by
    have : cntB row ≤ row.length := List.countP_le_length
    simp at h; omega
  | k :: q, row, hl, h => by
    by_cases hf : passF R row = row
    · have e : ∀ q : List Nat, q.foldl (fun r _ => passF R r) row = row := fun q => by
        induction q with
        | nil => rfl
        | cons k q ih => rw [List.foldl_cons, hf, ih]
      rw [e, hf]
    · rw [List.foldl_cons]
      refine pass_fix q (passF R row) (by rw [passF_len, hl]) ?_
      have := (cnt_le (passF_len R row).symm (passF_le R row)).2 (fun e => hf e.symm)
      simp at h
      omega
structure SInv (f : FrameD) (s : Nat) (row : List Bool) : Prop where
  len : row.length = f.beliefs.nodes.toNat
  snd : ∀ i : Nat, row[i]? = some true → UnF f s ((i : Nat) : Int)
theorem SInv.step {f : FrameD} {s : Nat} {row : List Bool} (hF : FrOk f) (h : SInv f s row) {r : ReasonD} (hr : r ∈ f.beliefs.reasons) : SInv f s (stepF row r) := by
  refine ⟨by rw [stepF_len, h.len], fun i hi => ?_⟩
  unfold stepF at hi
  rw [set_at] at hi
  split at hi
  · rename_i hc
    obtain ⟨rfl, _⟩ := hc
    simp only [Option.some.injEq, Bool.or_eq_true] at hi
    obtain ⟨f0, f1, f2, _⟩ := hF.R r hr
    rcases hi with hi | hi
    · exact h.snd _ (gB_iff.1 hi)
    · rw [Int.toNat_of_nonneg f0]
      refine UnF_iff.2 (.inr ⟨r, hr, rfl, fun y my => ?_⟩)
      have := h.snd _ (gB_iff.1 (List.all_eq_true.1 hi y my))
      rwa [Int.toNat_of_nonneg (f2 y my).1] at this
  · exact h.snd i hi
theorem SInv.pass {f : FrameD} {s : Nat} (hF : FrOk f) : ∀ (R : List ReasonD) (row : List Bool), (∀ r ∈ R, r ∈ f.beliefs.reasons) → SInv f s row → SInv f s (passF R row)
  | [], _, _, h => h
  | r :: R, row, hR, h => by
    rw [passF, List.foldl_cons]
    exact SInv.pass hF R _ (fun q hq => hR q (by simp [hq])) (h.step hF (hR r (by simp)))
theorem gB_at {row : List Bool} {y : Int} {n : Nat} (hl : row.length = n) (h1 : y.toNat < n) : row[y.toNat]? = some (gB row y) := by
  have hg : row[y.toNat]? = some row[y.toNat] := List.getElem?_eq_getElem (by omega)
  unfold gB
  rw [hg]; rfl
/-- assumptions set one after the other -/
def asmF (s : Nat) : List Int → Nat → List Bool → List Bool
  | [], _, row => row
  | x :: l, i, row => if s.testBit i = true then asmF s l (i + 1) (row.set x.toNat true) else asmF s l (i + 1) row
theorem asmF_len (s : Nat) : ∀ (l : List Int) (i : Nat) (row : List Bool), (asmF s l i row).length = row.length
  | [], _, _ => rfl
  | x :: l, i, row => by
    simp only [asmF]
    split
    · rw [asmF_len s l]; simp
    · exact asmF_len s l _ _
theorem asmF_at (s : Nat) : ∀ (l : List Int) (i : Nat) (row : List Bool) (k : Nat), (asmF s l i row)[k]? = some true ↔ row[k]? = some true ∨ (k < row.length ∧ ∃ x ∈ chosenL l s i, x.toNat = k)
  | [], i, row, k => by simp [asmF, chosenL]
  | x :: l, i, row, k => by
    simp only [asmF, chosenL]
    split
    · rw [asmF_at s l, set_at, List.length_set]
      by_cases hx : x.toNat = k
      · by_cases hk : k < row.length
        · simp [hx, hk]
        · rw [if_neg (fun h => hk h.2)]
          simp [hk]
      · rw [if_neg (fun h => hx h.1)]
        simp [hx]
    · exact asmF_at s l _ _ _
theorem s_under_eq {f : FrameD} (h : FrOk f) {s : Nat} (hs : s ≤ 9223372036854775807) : ∃ l, s_l13Under f ((s : Nat) : Int) = some l ∧ Lab l f.beliefs.nodes.toNat (UnF f s) := by
  have hn0 := h.n0
  have hn1 := h.n1
  have ha1 := h.a1
  have hlen0 : (asmF s f.assumed 0 (List.replicate f.beliefs.nodes.toNat false)).length = f.beliefs.nodes.toNat := by rw [asmF_len]; simp
  have h0 : SInv f s (asmF s f.assumed 0 (List.replicate f.beliefs.nodes.toNat false)) := by
    refine ⟨hlen0, fun i hi => ?_⟩
    rcases (asmF_at s _ _ _ _).1 hi with hi | ⟨_, x, mx, rfl⟩
    · by_cases hi' : i < f.beliefs.nodes.toNat
      · rw [rep_at hi'] at hi; simp at hi
      · rw [List.getElem?_eq_none (by simp; omega)] at hi; simp at hi
    · obtain ⟨j, h1, h2⟩ := mem_chosenL.1 mx
      rw [Int.toNat_of_nonneg (h.a x (List.mem_of_getElem? h1)).1]
      exact UnF_iff.2 (.inl ⟨j, h1, by simpa using h2⟩)
  generalize hrow0 : asmF s f.assumed 0 (List.replicate f.beliefs.nodes.toNat false) = row0 at *
  have hfold : ∀ (q : List Nat) (row : List Bool), SInv f s row → SInv f s (q.foldl (fun r _ => passF f.beliefs.reasons r) row) ∧ leB row (q.foldl (fun r _ => passF f.beliefs.reasons r) row) := by
    intro q
    induction q with
    | nil => intro row hr; exact ⟨hr, leB.refl _⟩
    | cons k q ih =>
      intro row hr
      rw [List.foldl_cons]
      obtain ⟨a, b⟩ := ih _ (SInv.pass h _ _ (fun _ hq => hq) hr)
      exact ⟨a, (passF_le _ _).trans b⟩
  obtain ⟨hF, hle⟩ := hfold (List.range' 0 (f.beliefs.nodes.toNat + 1)) row0 h0
  have hfix := pass_fix (R := f.beliefs.reasons) (n := f.beliefs.nodes.toNat) (List.range' 0 (f.beliefs.nodes.toNat + 1)) row0 hlen0 (by simp; omega)
  refine ⟨(List.range' 0 (f.beliefs.nodes.toNat + 1)).foldl (fun r _ => passF f.beliefs.reasons r) row0, ?_, hF.len, fun i hi => ⟨hF.snd i, fun hd => ?_⟩⟩
  · unfold s_l13Under
    rw [chk_pos _ ⟨hn0, by omega⟩, forL_rec (fun l i row => iter _ (asmF s l i row, 0)) (fun l i row => row.length = f.beliefs.nodes.toNat ∧ ∀ x ∈ l, 0 ≤ x ∧ x.toNat < f.beliefs.nodes.toNat) (fun i row _ => rfl) (fun x l i row hI => by
      left
      obtain ⟨hl, hx⟩ := hI
      obtain ⟨x0, x1⟩ := hx x (by simp)
      rw [chk_pos _ (by omega)]
      simp only [bit_eq hs]
      by_cases hb : s.testBit i = true
      · rw [if_pos hb, chk_pos _ ⟨x0, by omega⟩, gB_at hl x1, Option.bind_some]
        exact ⟨_, rfl, ⟨by simpa using hl, fun y my => hx y (by simp [my])⟩, by simp only [asmF, if_pos hb]⟩
      · rw [if_neg hb]
        exact ⟨_, rfl, ⟨hl, fun y my => hx y (by simp [my])⟩, by simp only [asmF, if_neg hb]⟩) f.assumed 0 _ ⟨by simp, h.a⟩, hrow0]
    refine iter_range (f := fun r _ => passF f.beliefs.reasons r) (fin := fun row => some row) (fun _ row => row.length = f.beliefs.nodes.toNat) (f.beliefs.nodes.toNat + 1) ?_ ?_ (f.beliefs.nodes.toNat + 1) 0 row0 (by omega) hlen0
    · intro k row hk hl
      refine ⟨?_, by rw [passF_len, hl]⟩
      show (if decide (((k : Nat) : Int) ≤ f.beliefs.nodes) = true then _ else _) = _
      rw [if_pos (by simp; omega), forL_fold (f := stepF) (fun _ row => row.length = f.beliefs.nodes.toNat) hl (fun j r row' mr _ _ hl' => by
        obtain ⟨f0, f1, f2, f3⟩ := h.R r mr
        refine ⟨?_, by rw [stepF_len, hl']⟩
        rw [forL_fold' (f := fun u y => u && gB row' y), fold1]
        · rw [chk_pos _ ⟨f0, by omega⟩, gB_at hl' f1, Option.bind_some]
          unfold stepF
          cases gB row' r.for_ <;> simp
        · intro i y u my
          obtain ⟨y0, y1⟩ := f2 y my
          cases u with
          | false => rfl
          | true =>
            rw [if_pos rfl, chk_pos _ ⟨y0, by omega⟩, gB_at hl' y1]; rfl)]
      rw [i64_succ (by omega)]
      rfl
    · intro row hl
      show (if decide (((f.beliefs.nodes.toNat + 1 : Nat) : Int) ≤ f.beliefs.nodes) = true then _ else _) = _
      rw [if_neg (by simp; omega)]
      rfl
  · have closed : ∀ x, UnF f s x → gB ((List.range' 0 (f.beliefs.nodes.toNat + 1)).foldl (fun r _ => passF f.beliefs.reasons r) row0) x = true := by
      intro x hx
      induction hx with
      | mk r hr _ ih =>
        rcases List.mem_append.1 hr with m | m
        · have := passF_has hF.len r m (h.R r m).2.1 ih
          rwa [hfix] at this
        · obtain ⟨y, my, rfl⟩ := List.mem_map.1 m
          refine hle.g (gB_iff.2 ?_)
          rw [← hrow0, asmF_at]
          obtain ⟨j, h1, _⟩ := mem_chosenL.1 my
          refine .inr ⟨?_, y, my, rfl⟩
          rw [List.length_replicate]
          exact (h.a y (List.mem_of_getElem? h1)).2
    have := gB_iff.1 (closed _ hd)
    simpa using this
end Go.Proofs.Ytfbonanbiblkbaa

namespace Go.Proofs.Ytfbonanbiblkbaa
theorem forL_pre {α σ ρ : Type} {body : Nat → α → σ → Option (σ ⊕ ρ)} {fin : σ → Option ρ} (I : List α → σ → Prop) : ∀ (l pre : List α) (s : σ), I pre s → (∀ p x s, x ∈ l → p.length < pre.length + l.length → I p s → ∃ s', body p.length x s = some (.inl s') ∧ I (p ++ [x]) s') → ∃ s', forL body fin l pre.length s = fin s' ∧ I (pre ++ l) s'
  | [], pre, s, h, _ => ⟨s, rfl, by simpa using h⟩
  | x :: l, pre, s, h, hs => by
    obtain ⟨s', e, h'⟩ := hs pre x s (by simp) (by simp) h
    rw [forL_next e]
    have := forL_pre (fin := fin) I l (pre ++ [x]) s' h' fun p y s m hp hI => hs p y s (by simp [m]) (by simp at hp ⊢; omega) hI
    simpa using this
def MF (f : FrameD) : Nat := 2 ^ f.assumed.length
theorem shl_MF {f : FrameD} (h : f.assumed.length ≤ 6) : shlI .i64 1 ((f.assumed.length : Nat) : Int) = ((MF f : Nat) : Int) ∧ MF f ≤ 64 := by
  have := shl_pow (n := ((f.assumed.length : Nat) : Int)) (by omega) (by omega)
  rw [Int.toNat_natCast] at this
  exact this
theorem MF_pos (f : FrameD) : 0 < MF f := Nat.two_pow_pos _
def inS (f : FrameD) (s : Int) : Bool := decide (0 ≤ s) && decide (s < ((MF f : Nat) : Int))
theorem inS_nat {f : FrameD} {s : Nat} : inS f ((s : Nat) : Int) = decide (s < MF f) := by
  unfold inS
  rw [show decide (0 ≤ ((s : Nat) : Int)) = true by simp, Bool.true_and, Bool.eq_iff_iff]
  simp
theorem i_isSet_eq {f : FrameD} (h : f.assumed.length ≤ 6) (s : Int) : i_isSet f s = some (inS f s) := by
  unfold i_isSet inS
  cases decide (0 ≤ s) with
  | false => rfl
  | true => rw [if_pos rfl, chk_pos _ (by omega), (shl_MF h).1]; rfl
theorem FrOk.a6 {f : FrameD} (h : isFrameB f = true) : f.assumed.length ≤ 6 := (FrOk.of h).a1
theorem s_l13Set_eq {f : FrameD} (h : isFrameB f = true) (hs : SmallF f) (s : Int) : s_l13Set f s = some (inS f s) := by
  unfold s_l13Set inS
  have h6 := FrOk.a6 h
  obtain ⟨e, e64⟩ := shl_MF h6
  have hp := MF_pos f
  rw [s_IsFrame_eq hs, h, Option.bind_some, if_pos rfl, chk_pos _ (by omega), e, wrap_ok (by omega) (by omega), s_In_eq]
  rw [Option.bind_some]
  congr 2
  rw [Bool.eq_iff_iff]; simp; omega
theorem s_l13Set_none {f : FrameD} (h : isFrameB f = false) (hs : SmallF f) (s : Int) : s_l13Set f s = some false := by
  unfold s_l13Set
  rw [s_IsFrame_eq hs, h]; rfl
open Classical
theorem i_under_none {f : FrameD} (h : isFrameB f = true) {s : Nat} (hs : s < MF f) : ∃ l, i_under f ((s : Nat) : Int) = some l ∧ Lab l f.beliefs.nodes.toNat (UnF f s) ∧ i_noneIn f.bad l = some (decide (Cons f s)) := by
  have hF := FrOk.of h
  have := (shl_MF hF.a1).2
  obtain ⟨l, e, hl⟩ := i_under_eq hF (s := s) (by omega)
  refine ⟨l, e, hl, ?_⟩
  rw [i_noneIn_eq hl hF.b]
  congr 1
  rw [Bool.eq_iff_iff, decide_eq_true_iff, decide_eq_true_iff]
  exact Iff.rfl
theorem i_cons_eq {f : FrameD} (h : isFrameB f = true) (hs : SmallF f) {s : Nat} (h1 : s < MF f) : i_IsConsistent f ((s : Nat) : Int) = some (decide (Cons f s)) := by
  obtain ⟨l, e1, e2, e3⟩ := i_under_none h h1
  unfold i_IsConsistent
  rw [i_IsFrame_eq hs, h, Option.bind_some, if_pos rfl, i_isSet_eq (FrOk.a6 h), inS_nat, Option.bind_some, decide_eq_true h1, if_pos rfl, e1, Option.bind_some, e3]
  rfl
theorem s_under_some {f : FrameD} (h : isFrameB f = true) {s : Nat} (hs : s < MF f) : ∃ l, s_l13Under f ((s : Nat) : Int) = some l ∧ Lab l f.beliefs.nodes.toNat (UnF f s) := by
  have hF := FrOk.of h
  have := (shl_MF hF.a1).2
  exact s_under_eq hF (s := s) (by omega)
theorem s_cons_eq {f : FrameD} (h : isFrameB f = true) (hs : SmallF f) {s : Nat} (h1 : s < MF f) : s_IsConsistent f ((s : Nat) : Int) = some (decide (Cons f s)) := by
  obtain ⟨l, e1, e2⟩ := s_under_some h h1
  have hF := FrOk.of h
  unfold s_IsConsistent
  rw [s_l13Set_eq h hs, inS_nat, Option.bind_some, decide_eq_true h1, if_pos rfl, e1, Option.bind_some, forL_all (p := fun y => decide (¬ UnF f s y)) (r := false)]
  · have : f.bad.all (fun y => decide (¬ UnF f s y)) = decide (Cons f s) := by
      rw [Bool.eq_iff_iff, List.all_eq_true, decide_eq_true_iff]
      exact forall_congr' fun y => forall_congr' fun _ => decide_eq_true_iff
    rw [this]
    by_cases hh : Cons f s
    · rw [decide_eq_true hh]; rfl
    · rw [decide_eq_false hh]; rfl
  · intro i x mx
    obtain ⟨h0, hx⟩ := hF.b x mx
    obtain ⟨b, q1, q2⟩ := e2.at h0 hx
    rw [chk_pos _ ⟨h0, by rw [e2.len]; omega⟩, q1, Option.bind_some]
    by_cases hD : UnF f s x
    · rw [q2.2 hD]; simp [hD]
    · have : b = false := by cases b with
        | false => rfl
        | true => exact absurd (q2.1 rfl) hD
      rw [this]; simp [hD]
def trueIx : List Bool → Nat → List Int
  | [], _ => []
  | b :: l, i => (if b then [((i : Nat) : Int)] else []) ++ trueIx l (i + 1)
theorem mem_trueIx {x : Int} : ∀ {l : List Bool} {i : Nat}, x ∈ trueIx l i ↔ ∃ j, l[j]? = some true ∧ x = ((i + j : Nat) : Int)
  | [], i => by simp [trueIx]
  | b :: l, i => by
    rw [trueIx, List.mem_append, mem_trueIx (l := l)]
    constructor
    · rintro (h | ⟨j, h1, h2⟩)
      · cases b with
        | false => simp at h
        | true => exact ⟨0, by simp, by simpa using h⟩
      · exact ⟨j + 1, by simpa using h1, by rw [h2]; omega⟩
    · rintro ⟨j, h1, h2⟩
      cases j with
      | zero => left; simp at h1; simp [h1, h2]
      | succ j => right; exact ⟨j, by simpa using h1, by rw [h2]; omega⟩
theorem ix_loop {ρ : Type} {l : List Bool} (hl : l.length ≤ 1000000) {fin : List Int → Option ρ} : forL (σ := List Int) (fun (i9 : Nat) (x10 : Bool) row_6 => if x10 = true then chk (row_6.length + 1 ≤ 1073741824) <| some (.inl (row_6 ++ [((i9 : Nat) : Int)])) else some (.inl row_6)) fin l 0 [] = fin (trueIx l 0) := by
  rw [forL_rec (fun l i acc => fin (acc ++ trueIx l i)) (fun l i acc => acc.length + l.length ≤ 1000000) (fun i acc _ => by simp [trueIx]) (fun x l i acc hI => by
    left
    simp only [List.length_cons] at hI
    cases x with
    | true =>
      rw [if_pos rfl, chk_pos _ (by omega)]
      exact ⟨_, rfl, by simp; omega, by simp [trueIx]⟩
    | false => exact ⟨_, rfl, by omega, by simp [trueIx]⟩) l 0 [] (by simpa using hl)]
  simp
theorem mem_lab {l : List Bool} {n : Nat} {D : Int → Prop} (h : Lab l n D) (hD : ∀ x, D x → 0 ≤ x ∧ x.toNat < n) (x : Int) : x ∈ trueIx l 0 ↔ D x := by
  rw [mem_trueIx]
  constructor
  · rintro ⟨j, h1, rfl⟩
    have hj : j < n := by rw [← h.len]; exact (List.getElem?_eq_some_iff.1 h1).1
    obtain ⟨b, q1, q2⟩ := h.at (y := ((0 + j : Nat) : Int)) (by omega) (by omega)
    have e : (((0 + j : Nat) : Int)).toNat = j := by omega
    rw [e, h1] at q1
    simp only [Option.some.injEq] at q1
    exact q2.1 q1.symm
  · intro hd
    obtain ⟨h0, h1⟩ := hD x hd
    obtain ⟨b, q1, q2⟩ := h.at h0 h1
    rw [q2.2 hd] at q1
    exact ⟨x.toNat, q1, by omega⟩
theorem UnF.node {f : FrameD} (h : isFrameB f = true) {s : Nat} {x : Int} (hx : UnF f s x) : 0 ≤ x ∧ x.toNat < f.beliefs.nodes.toNat := Der.node ((FrOk.of h).RF s) hx
theorem i_nodes_eq {f : FrameD} (h : isFrameB f = true) (hs : SmallF f) {s : Nat} (h1 : s < MF f) : ∃ r, i_NodesUnder f ((s : Nat) : Int) = some r ∧ ∀ x, x ∈ r ↔ UnF f s x := by
  obtain ⟨l, e1, e2, _⟩ := i_under_none h h1
  have hF := FrOk.of h
  have := hF.n1
  refine ⟨trueIx l 0, ?_, mem_lab e2 fun x => UnF.node h⟩
  unfold i_NodesUnder
  rw [i_IsFrame_eq hs, h, Option.bind_some, if_pos rfl, i_isSet_eq (FrOk.a6 h), inS_nat, Option.bind_some, decide_eq_true h1, if_pos rfl, e1, Option.bind_some, ix_loop (by rw [e2.len]; omega)]
theorem s_nodes_eq {f : FrameD} (h : isFrameB f = true) (hs : SmallF f) {s : Nat} (h1 : s < MF f) : ∃ r, s_NodesUnder f ((s : Nat) : Int) = some r ∧ ∀ x, x ∈ r ↔ UnF f s x := by
  obtain ⟨l, e1, e2⟩ := s_under_some h h1
  have hF := FrOk.of h
  have := hF.n1
  refine ⟨trueIx l 0, ?_, mem_lab e2 fun x => UnF.node h⟩
  unfold s_NodesUnder
  rw [s_l13Set_eq h hs, inS_nat, Option.bind_some, decide_eq_true h1, if_pos rfl, e1, Option.bind_some, ix_loop (by rw [e2.len]; omega)]
theorem s_l1Has_eq (l : List Int) (x : Int) : s_l1Has l x = some (hasB l x) := i_hasInt_eq l x
theorem w_hasInt_eq (l : List Int) (x : Int) : w_hasInt l x = some (hasB l x) := i_hasInt_eq l x
theorem hasB_dec {l : List Int} {x : Int} {P : Prop} (h : x ∈ l ↔ P) : hasB l x = decide P := by
  rw [Bool.eq_iff_iff, hasB_iff, h]; simp
def HoldP (f : FrameD) (x : Int) (s : Nat) : Prop := Cons f s ∧ UnF f s x
theorem hold_dec {f : FrameD} {x : Int} {s : Nat} : (if decide (Cons f s) = true then (some (decide (UnF f s x)) : Option Bool) else some false) = some (decide (HoldP f x s)) := by
  by_cases h : Cons f s
  · simp [HoldP, h]
  · simp [HoldP, h]
theorem i_holds_eq {f : FrameD} (h : isFrameB f = true) (hs : SmallF f) (x : Int) {s : Nat} (h1 : s < MF f) : i_HoldsUnder f x ((s : Nat) : Int) = some (decide (HoldP f x s)) := by
  obtain ⟨r, e1, e2⟩ := i_nodes_eq h hs h1
  unfold i_HoldsUnder
  rw [i_cons_eq h hs h1, Option.bind_some, e1, Option.bind_some, i_hasInt_eq, Option.bind_some, hasB_dec (e2 x), hold_dec]
theorem s_holds_eq {f : FrameD} (h : isFrameB f = true) (hs : SmallF f) (x : Int) {s : Nat} (h1 : s < MF f) : s_HoldsUnder f x ((s : Nat) : Int) = some (decide (HoldP f x s)) := by
  obtain ⟨r, e1, e2⟩ := s_nodes_eq h hs h1
  unfold s_HoldsUnder
  rw [s_cons_eq h hs h1, Option.bind_some, e1, Option.bind_some, s_l1Has_eq, Option.bind_some, hasB_dec (e2 x), hold_dec]
/-- the sets with a property, in order -/
def setF (p : Nat → Bool) (row : List Int) (k : Nat) : List Int := if p k then row ++ [((k : Nat) : Int)] else row
def setL (p : Nat → Bool) (m : Nat) : List Int := (List.range' 0 m).foldl (setF p) []
theorem setF_len (p : Nat → Bool) (row : List Int) (k : Nat) : (setF p row k).length ≤ row.length + 1 := by
  unfold setF; split <;> simp
theorem setL_fold (p : Nat → Bool) : ∀ (d k : Nat) (row : List Int), row.Pairwise (· < ·) → (∀ y ∈ row, y < ((k : Nat) : Int)) → ((List.range' k d).foldl (setF p) row).Pairwise (· < ·) ∧ ((List.range' k d).foldl (setF p) row).length ≤ row.length + d ∧ ∀ y, y ∈ (List.range' k d).foldl (setF p) row ↔ y ∈ row ∨ ∃ j, k ≤ j ∧ j < k + d ∧ y = ((j : Nat) : Int) ∧ p j = true
  | 0, k, row, h1, h2 => by
    refine ⟨by simpa using h1, by simp, fun y => ?_⟩
    simp only [List.range'_zero, List.foldl_nil]
    exact ⟨.inl, fun h => h.elim id fun ⟨j, a, b, _⟩ => by omega⟩
  | d + 1, k, row, h1, h2 => by
    have hq : (setF p row k).Pairwise (· < ·) ∧ ∀ y ∈ setF p row k, y < ((k + 1 : Nat) : Int) := by
      unfold setF
      split
      · refine ⟨List.pairwise_append.2 ⟨h1, List.pairwise_singleton _ _, fun a ma b mb => ?_⟩, fun y my => ?_⟩
        · rw [List.mem_singleton.1 mb]; exact h2 a ma
        · rcases List.mem_append.1 my with m | m
          · have := h2 y m; omega
          · rw [List.mem_singleton.1 m]; omega
      · exact ⟨h1, fun y my => by have := h2 y my; omega⟩
    obtain ⟨a1, a2, a3⟩ := setL_fold p d (k + 1) (setF p row k) hq.1 hq.2
    rw [List.range'_succ, List.foldl_cons]
    refine ⟨a1, by have := setF_len p row k; omega, fun y => ?_⟩
    rw [a3]
    have h3 : y ∈ setF p row k ↔ y ∈ row ∨ (y = ((k : Nat) : Int) ∧ p k = true) := by
      unfold setF
      split
      · rename_i hc; simp [hc]
      · rename_i hc; simp [hc]
    rw [h3]
    constructor
    · rintro ((h | ⟨h, h'⟩) | ⟨j, q1, q2, q3, q4⟩)
      · exact .inl h
      · exact .inr ⟨k, by omega, by omega, h, h'⟩
      · exact .inr ⟨j, by omega, by omega, q3, q4⟩
    · rintro (h | ⟨j, q1, q2, q3, q4⟩)
      · exact .inl (.inl h)
      · by_cases e : j = k
        · subst e; exact .inl (.inr ⟨q3, q4⟩)
        · exact .inr ⟨j, by omega, by omega, q3, q4⟩
theorem setL_spec (p : Nat → Bool) (m : Nat) : (setL p m).Pairwise (· < ·) ∧ (setL p m).length ≤ m ∧ ∀ y, y ∈ setL p m ↔ ∃ k, k < m ∧ y = ((k : Nat) : Int) ∧ p k = true := by
  obtain ⟨h1, h2, h3⟩ := setL_fold p m 0 [] List.Pairwise.nil (by simp)
  refine ⟨h1, by simpa [setL] using h2, fun y => ?_⟩
  rw [setL, h3]
  simp
theorem setL_congr {p q : Nat → Bool} {m : Nat} (h : ∀ k, k < m → p k = q k) : setL p m = setL q m := by
  refine asc_extI (setL_spec p m).1 (setL_spec q m).1 fun x => ?_
  rw [(setL_spec p m).2.2, (setL_spec q m).2.2]
  exact ⟨fun ⟨k, a, b, c⟩ => ⟨k, a, b, by rw [← h k a]; exact c⟩, fun ⟨k, a, b, c⟩ => ⟨k, a, b, by rw [h k a]; exact c⟩⟩
theorem setL_memP {p : Nat → Bool} {m : Nat} (s : Nat) : memP (setL p m) s ↔ s < m ∧ p s = true := by
  show ((s : Nat) : Int) ∈ _ ↔ _
  rw [(setL_spec p m).2.2]
  constructor
  · rintro ⟨k, a, b, c⟩
    have : s = k := by omega
    subst this; exact ⟨a, c⟩
  · rintro ⟨a, c⟩; exact ⟨s, a, rfl, c⟩
theorem i_setsWith_eq {f : FrameD} (h6 : f.assumed.length ≤ 6) {keep : Int → Option Bool} {p : Nat → Bool} (hk : ∀ s : Nat, s < MF f → keep ((s : Nat) : Int) = some (p s)) : i_setsWith f keep = some (setL p (MF f)) := by
  obtain ⟨e, e64⟩ := shl_MF h6
  unfold i_setsWith
  rw [chk_pos _ (by omega)]
  refine (iter_range (f := setF p) (fin := fun row => some row) (fun k row => row.length ≤ k) (MF f) ?_ ?_ (MF f) 0 [] (by omega) (by simp))
  · intro k row hk' hI
    refine ⟨?_, by have := setF_len p row k; omega⟩
    rw [e]
    show (if decide (((k : Nat) : Int) < ((MF f : Nat) : Int)) = true then _ else _) = _
    rw [if_pos (by simp only [decide_eq_true_eq]; omega), hk k hk', Option.bind_some, i64_succ (by omega)]
    unfold setF
    cases p k with
    | false => simp
    | true => simp only [if_true]; rw [chk_pos _ (by omega)]
  · intro row _
    rw [e]
    show (if decide (((MF f : Nat) : Int) < ((MF f : Nat) : Int)) = true then _ else _) = _
    rw [if_neg (by simp)]; rfl
/-- the nogoods -/
noncomputable def ngB (f : FrameD) (s : Nat) : Bool := !decide (Cons f s)
noncomputable def lbB (f : FrameD) (x : Int) (s : Nat) : Bool := decide (HoldP f x s)
noncomputable def okB (f : FrameD) (s : Nat) : Bool := decide (Cons f s)
theorem i_Nogoods_run {f : FrameD} (h : isFrameB f = true) (hs : SmallF f) : i_NogoodsOf f = i_LeastSets (setL (ngB f) (MF f)) := by
  unfold i_NogoodsOf
  rw [i_IsFrame_eq hs, h, Option.bind_some, if_pos rfl, i_setsWith_eq (FrOk.a6 h) (p := ngB f)]
  · rw [Option.bind_some]
    cases i_LeastSets (setL (ngB f) (MF f)) <;> rfl
  · intro s h1
    obtain ⟨l, e1, e2, e3⟩ := i_under_none h h1
    show i_NogoodsOf_1 _ _ = _
    unfold i_NogoodsOf_1
    rw [e1, Option.bind_some, e3, Option.bind_some]; rfl
theorem i_Label_run {f : FrameD} (h : isFrameB f = true) (hs : SmallF f) (x : Int) : i_LabelFor f x = i_LeastSets (setL (lbB f x) (MF f)) := by
  have hn : (∀ s, lbB f x s = false) → setL (lbB f x) (MF f) = [] := fun hh => by
    refine List.eq_nil_iff_forall_not_mem.2 fun y my => ?_
    obtain ⟨k, _, _, hk⟩ := ((setL_spec _ _).2.2 y).1 my
    rw [hh k] at hk
    simp at hk
  have h0 : i_LeastSets [] = some [] := by rw [i_LeastSets_run [] (by simp)]; simp [sortZ]
  have hno : ¬ (0 ≤ x ∧ x.toNat < f.beliefs.nodes.toNat) → ∀ s, lbB f x s = false := fun hh s => by
    unfold lbB
    refine decide_eq_false fun hp => hh (UnF.node h hp.2)
  unfold i_LabelFor
  rw [i_IsFrame_eq hs, h, Option.bind_some, if_pos rfl]
  have hF := FrOk.of h
  have := hF.n0
  by_cases q1 : x < 0
  · rw [if_pos (by simpa using q1), hn (hno (by omega)), h0]
  rw [if_neg (by simpa using q1)]
  by_cases q2 : f.beliefs.nodes ≤ x
  · rw [if_pos (by simpa using q2), hn (hno (by omega)), h0]
  rw [if_neg (by simpa using q2), i_setsWith_eq (FrOk.a6 h) (p := lbB f x)]
  · rw [Option.bind_some]
    cases i_LeastSets (setL (lbB f x) (MF f)) <;> rfl
  · intro s h1
    obtain ⟨l, e1, e2, e3⟩ := i_under_none h h1
    show i_LabelFor_1 _ _ _ = _
    unfold i_LabelFor_1
    obtain ⟨b, b1, b2⟩ := e2.at (y := x) (by omega) (by omega)
    rw [e1, Option.bind_some, chk_pos _ ⟨by omega, by rw [e2.len]; omega⟩, b1, Option.bind_some, e3]
    unfold lbB
    by_cases hD : UnF f s x
    · rw [b2.2 hD]; simp [hD, HoldP]
    · have : b = false := by cases b with
        | false => rfl
        | true => exact absurd (b2.1 rfl) hD
      rw [this]; simp [hD, HoldP]
theorem s_Label_run {f : FrameD} (h : isFrameB f = true) (hs : SmallF f) (x : Int) : s_LabelFor f x = s_LeastSets (setL (lbB f x) (MF f)) := by
  obtain ⟨e, e64⟩ := shl_MF (FrOk.a6 h)
  unfold s_LabelFor
  refine (iter_range (f := setF (lbB f x)) (fin := fun row => s_LeastSets row) (fun k row => row.length ≤ k) (MF f) ?_ ?_ (MF f) 0 [] (by omega) (by simp))
  · intro k row hk' hI
    refine ⟨?_, by have := setF_len (lbB f x) row k; omega⟩
    show (s_l13Set f ((k : Nat) : Int)).bind _ = _
    rw [s_l13Set_eq h hs, inS_nat, Option.bind_some, decide_eq_true hk', if_pos rfl, s_holds_eq h hs x hk', Option.bind_some, i64_succ (by omega)]
    unfold setF
    rw [show decide (HoldP f x k) = lbB f x k from rfl]
    cases lbB f x k with
    | false => simp
    | true => simp only [if_true]; rw [chk_pos _ (by omega)]
  · intro row _
    show (s_l13Set f ((MF f : Nat) : Int)).bind _ = _
    rw [s_l13Set_eq h hs, inS_nat, Option.bind_some, decide_eq_false (by omega), if_neg (by simp)]
theorem set_fit {f : FrameD} (h : isFrameB f = true) (p : Nat → Bool) : Fit (setL p (MF f)) ∧ (setL p (MF f)).length ≤ 64 := by
  have h64 := (shl_MF (FrOk.a6 h)).2
  obtain ⟨_, h2, h3⟩ := setL_spec p (MF f)
  exact ⟨fun y my => by obtain ⟨k, a, rfl, _⟩ := (h3 y).1 my; omega, by omega⟩
theorem least_set {f : FrameD} (h : isFrameB f = true) (p : Nat → Bool) : ∃ r, i_LeastSets (setL p (MF f)) = some r ∧ Canon r (fun s => s < MF f ∧ p s = true) ∧ (∀ y ∈ r, 0 ≤ y ∧ y < ((MF f : Nat) : Int) ∧ p y.toNat = true) ∧ r.length ≤ 64 := by
  obtain ⟨hf, hl⟩ := set_fit h p
  obtain ⟨r, r1, r2, r3, r4⟩ := i_LeastSets_can (setL p (MF f)) (by omega) hf
  refine ⟨r, r1, ⟨r2.1, fun y => ?_⟩, fun y my => ?_, by omega⟩
  · rw [r2.2]
    rw [min_ext (Cof.of fun n hn => (setL_memP n).1 hn) (Cof.of fun n hn => (setL_memP n).2 hn)]
  · obtain ⟨k, a, rfl, b⟩ := ((setL_spec p (MF f)).2.2 y).1 (r3 y my)
    exact ⟨by omega, by omega, by simpa using b⟩
theorem i_Nogoods_can {f : FrameD} (h : isFrameB f = true) (hs : SmallF f) : ∃ r, i_NogoodsOf f = some r ∧ Canon r (fun s => s < MF f ∧ ngB f s = true) ∧ (∀ y ∈ r, 0 ≤ y ∧ y < ((MF f : Nat) : Int) ∧ ngB f y.toNat = true) ∧ r.length ≤ 64 := by
  rw [i_Nogoods_run h hs]; exact least_set h _
theorem i_Label_can {f : FrameD} (h : isFrameB f = true) (hs : SmallF f) (x : Int) : ∃ r, i_LabelFor f x = some r ∧ Canon r (fun s => s < MF f ∧ lbB f x s = true) ∧ (∀ y ∈ r, 0 ≤ y ∧ y < ((MF f : Nat) : Int) ∧ lbB f x y.toNat = true) ∧ r.length ≤ 64 := by
  rw [i_Label_run h hs]; exact least_set h _
theorem s_Label_same {f : FrameD} (h : isFrameB f = true) (hs : SmallF f) (x : Int) : s_LabelFor f x = i_LabelFor f x := by
  rw [s_Label_run h hs, i_Label_run h hs, s_LeastSets_as _ (by have := (set_fit h (lbB f x)).2; omega)]
/-- the greatest consistent sets -/
def greatB (l : List Int) (x : Int) : Bool := l.all fun y => y == x || !partB x y
noncomputable def okL (f : FrameD) : List Int := setL (okB f) (MF f)
theorem i_Great_run {f : FrameD} (h : isFrameB f = true) (hs : SmallF f) : i_GreatestSets f = some ((okL f).filter (greatB (okL f))) := by
  unfold i_GreatestSets
  rw [i_IsFrame_eq hs, h, Option.bind_some, if_pos rfl, i_setsWith_eq (FrOk.a6 h) (p := okB f)]
  · rw [Option.bind_some, show setL (okB f) (MF f) = okL f from rfl]
    have hl : (okL f).length ≤ 64 := (set_fit h (okB f)).2
    rw [forL_filter (p := greatB (okL f))]
    · rfl
    · intro j x s mx hj
      rw [forL_fold' (f := fun c y => c && (y == x || !partB x y)), fold1, Bool.true_and]
      · show (if greatB (okL f) x = true then _ else _) = _
        simp only [List.length_nil, Nat.zero_add] at hj
        cases greatB (okL f) x with
        | false => simp
        | true => simp only [if_true]; rw [chk_pos _ (by omega)]
      · intro i y c _
        rw [i_IsPart_eq, Option.bind_some]
        cases c <;> cases y == x <;> simp
  · intro s h1
    obtain ⟨l, e1, e2, e3⟩ := i_under_none h h1
    show i_GreatestSets_1 _ _ = _
    unfold i_GreatestSets_1
    rw [e1, Option.bind_some, e3, Option.bind_some]; rfl
theorem s_Great_run {f : FrameD} (h : isFrameB f = true) (hs : SmallF f) : s_GreatestSets f = some ((okL f).filter (greatB (okL f))) := by
  obtain ⟨e, e64⟩ := shl_MF (FrOk.a6 h)
  unfold s_GreatestSets
  refine (iter_range (f := setF (okB f)) (fin := fun row => some (row.filter (greatB row))) (fun k row => row.length ≤ k) (MF f) ?_ ?_ (MF f) 0 [] (by omega) (by simp))
  · intro k row hk' hI
    refine ⟨?_, by have := setF_len (okB f) row k; omega⟩
    show (s_l13Set f ((k : Nat) : Int)).bind _ = _
    rw [s_l13Set_eq h hs, inS_nat, Option.bind_some, decide_eq_true hk', if_pos rfl, s_cons_eq h hs hk', Option.bind_some, i64_succ (by omega)]
    unfold setF
    rw [show decide (Cons f k) = okB f k from rfl]
    cases okB f k with
    | false => simp
    | true => simp only [if_true]; rw [chk_pos _ (by omega)]
  · intro row hrow
    show (s_l13Set f ((MF f : Nat) : Int)).bind _ = _
    rw [s_l13Set_eq h hs, inS_nat, Option.bind_some, decide_eq_false (by omega), if_neg (by simp)]
    rw [forL_filter (p := greatB row)]
    · rfl
    · intro j x s mx hj
      rw [forL_fold' (f := fun c y => c && (y == x || !partB x y)), fold1, Bool.true_and]
      · show (if greatB row x = true then _ else _) = _
        simp only [List.length_nil, Nat.zero_add] at hj
        cases greatB row x with
        | false => simp
        | true => simp only [if_true]; rw [chk_pos _ (by omega)]
      · intro i y c _
        rw [s_IsPart_eq, Option.bind_some]
        cases c <;> cases partB x y <;> simp
end Go.Proofs.Ytfbonanbiblkbaa

namespace Go.Proofs.Ytfbonanbiblkbaa
/-- ascending, below a bound -/
structure AscTo (l : List Int) (k : Nat) : Prop where
  asc : l.Pairwise (· < ·)
  bnd : ∀ y ∈ l, 0 ≤ y ∧ y < ((k : Nat) : Int)
theorem AscTo.nil (k : Nat) : AscTo [] k := ⟨List.Pairwise.nil, by simp⟩
theorem AscTo.skip {l : List Int} {k : Nat} (h : AscTo l k) : AscTo l (k + 1) := ⟨h.asc, fun y my => by have := h.bnd y my; omega⟩
theorem AscTo.mono {l : List Int} {k n : Nat} (h : AscTo l k) (hk : k ≤ n) : AscTo l n := ⟨h.asc, fun y my => by have := h.bnd y my; omega⟩
theorem AscTo.put {l : List Int} {k : Nat} (h : AscTo l k) : AscTo (l ++ [((k : Nat) : Int)]) (k + 1) := by
  refine ⟨List.pairwise_append.2 ⟨h.asc, List.pairwise_singleton _ _, fun a ma b mb => ?_⟩, fun y my => ?_⟩
  · rw [List.mem_singleton.1 mb]; exact (h.bnd a ma).2
  · rcases List.mem_append.1 my with m | m
    · have := h.bnd y m; omega
    · rw [List.mem_singleton.1 m]; omega
theorem AscTo.len {l : List Int} {k : Nat} (h : AscTo l k) : l.length ≤ k := asc_small h.asc fun x mx => by have := h.bnd x mx; omega
theorem AscTo.b {l : List Int} {k : Nat} (h : AscTo l k) : ascB l ((k : Nat) : Int) = true := asc_to h.bnd h.asc
theorem l11Nodes_ok {c : l1CurD} (h : CurOk c) {n : Nat} (hn : n ≤ 1000) (m : Int) : ∃ l c', s_l11Nodes c ((n : Nat) : Int) m = some (l, c') ∧ AscTo l n ∧ CurOk c' := by
  unfold s_l11Nodes
  have key : ∀ (d i : Nat) (cc : l1CurD) (row : List Int), i + d = n → CurOk cc → AscTo row i → ∃ l c', iter (σ := (List Int) × Int × Int × (List Int) × Int)
    (fun s =>
      match s with
      | (f_2, f_3, f_4, row_5, i_6) =>
      if (decide (i_6 < ((n : Nat) : Int))) = true then
        if (decide (((row_5.length : Nat) : Int) < m)) = true then
          (s_l1Once ({ b := f_2, i := f_3, h := f_4 } : l1CurD) 3).bind fun v7 =>
          if v7.1 = true then
            chk (row_5.length + 1 ≤ 1073741824) <|
            some (.inl (v7.2.b, v7.2.i, v7.2.h, (row_5 ++ [i_6]), (IntKind.i64.wrap (i_6 + 1))))
          else
            some (.inl (v7.2.b, v7.2.i, v7.2.h, row_5, (IntKind.i64.wrap (i_6 + 1))))
        else
          some (.inr (row_5, ({ b := f_2, i := f_3, h := f_4 } : l1CurD)))
      else
        some (.inr (row_5, ({ b := f_2, i := f_3, h := f_4 } : l1CurD))))
    (cc.b, cc.i, cc.h, row, ((i : Nat) : Int)) = some (l, c') ∧ AscTo l n ∧ CurOk c' := by
    intro d
    induction d with
    | zero =>
      intro i cc row hi hc hr
      have : i = n := by omega
      subst this
      refine ⟨row, cc, ?_, hr, hc⟩
      rw [iter_eq]
      simp only [Int.lt_irrefl, decide_false, Bool.false_eq_true, if_false]
    | succ d ih =>
      intro i cc row hi hc hr
      rw [iter_eq]
      have hpos : decide (((i : Nat) : Int) < ((n : Nat) : Int)) = true := decide_eq_true (by omega)
      simp only [hpos, if_true]
      by_cases hm : ((row.length : Nat) : Int) < m
      · obtain ⟨b, c2, e2, hc2⟩ := l1Once_ok hc (n := 3) (by omega) (by omega)
        simp only [decide_eq_true hm, if_true]
        rw [show ({ b := cc.b, i := cc.i, h := cc.h } : l1CurD) = cc from rfl, e2]
        simp only [Option.bind_some]
        have := hr.len
        cases b with
        | true =>
          simp only [if_true]
          rw [chk_pos _ (by omega), i64_succ (by omega)]
          exact ih (i + 1) c2 _ (by omega) hc2 hr.put
        | false =>
          simp only [Bool.false_eq_true, if_false]
          rw [i64_succ (by omega)]
          exact ih (i + 1) c2 _ (by omega) hc2 hr.skip
      · simp only [decide_eq_false hm, Bool.false_eq_true, if_false]
        exact ⟨row, cc, rfl, hr.mono (by omega), hc⟩
  exact key n 0 c [] (by omega) h (AscTo.nil 0)
structure GoodR (n : Nat) (r : ReasonD) : Prop where
  f0 : 0 ≤ r.for_
  f1 : r.for_ < ((n : Nat) : Int)
  inn : AscTo r.inn n
  outs : r.outs = []
theorem GoodR.b {n : Nat} {r : ReasonD} (h : GoodR n r) : okRB ((n : Nat) : Int) r = true ∧ noOut r = true := by
  refine ⟨?_, by simp [noOut, h.outs]⟩
  simp only [okRB, Bool.and_eq_true, decide_eq_true_eq]
  refine ⟨h.f0, h.f1, h.inn.b, ?_⟩
  rw [h.outs]; rfl
structure GoodB (n : Nat) (b : BeliefsD) : Prop where
  nodes : b.nodes = ((n : Nat) : Int)
  n1 : n ≤ 24
  n0 : 0 < n
  len : b.reasons.length ≤ 60
  R : ∀ r ∈ b.reasons, GoodR n r
theorem l11Draw_ok {c : l1CurD} (h : CurOk c) : ∃ n b c', s_l11Draw c 7 false = some (b, c') ∧ GoodB n b ∧ CurOk c' := by
  unfold s_l11Draw
  obtain ⟨x, c1, e1, x0, x1, h1⟩ := l1Below_ok h (n := 7) (by omega) (by omega)
  rw [e1]; simp only [Option.bind_some]
  rw [show IntKind.i64.wrap (2 * 7) = 14 by decide]
  obtain ⟨q, c2, e2, q0, q1, h2⟩ := l1Below_ok h1 (n := 14) (by omega) (by omega)
  rw [e2]; simp only [Option.bind_some]
  obtain ⟨k, rfl⟩ := Int.eq_ofNat_of_zero_le x0
  obtain ⟨d, rfl⟩ := Int.eq_ofNat_of_zero_le q0
  have hw : IntKind.i64.wrap (1 + ((k : Nat) : Int)) = ((k + 1 : Nat) : Int) := by rw [wrap_ok (by omega) (by omega)]; omega
  rw [hw]
  refine ⟨k + 1, ?_⟩
  have hd : d ≤ 13 := by omega
  have hst : ∃ (cc : l1CurD) (row : List ReasonD), (c2.b, c2.i, c2.h, ([] : List ReasonD), false, ((d : Nat) : Int)) = (cc.b, cc.i, cc.h, row, false, ((d : Nat) : Int)) ∧ CurOk cc ∧ (∀ r ∈ row, GoodR (k + 1) r) ∧ row.length + d ≤ 13 := ⟨c2, [], rfl, h2, by simp, by simpa using hd⟩
  clear e2 q0 q1 hd
  generalize (c2.b, c2.i, c2.h, ([] : List ReasonD), false, ((d : Nat) : Int)) = st at hst ⊢
  clear h2 c2
  induction d generalizing st with
  | zero =>
    obtain ⟨c2, row, rfl, h2, hr, hl⟩ := hst
    refine ⟨{ nodes := ((k + 1 : Nat) : Int), reasons := row }, c2, ?_, ⟨rfl, by omega, by omega, by show row.length ≤ 60; omega, hr⟩, h2⟩
    rw [iter_eq]
    simp only [Int.natCast_zero, Int.lt_irrefl, decide_false, Bool.false_eq_true, if_false]
  | succ d ih =>
    obtain ⟨c2, row, rfl, h2, hr, hl⟩ := hst
    rw [iter_eq]
    have hpos : decide (0 < (((d + 1 : Nat)) : Int)) = true := decide_eq_true (by omega)
    simp only [hpos, if_true]
    rw [show ({ b := c2.b, i := c2.i, h := c2.h } : l1CurD) = c2 from rfl]
    obtain ⟨y, c3, e3, y0, y1, h3⟩ := l1Below_ok h2 (n := ((k + 1 : Nat) : Int)) (by omega) (by omega)
    obtain ⟨b4, c4, e4, h4⟩ := l1Once_ok h3 (n := 3) (by omega) (by omega)
    rw [e3]; simp only [Option.bind_some]
    rw [e4]; simp only [Option.bind_some]
    have hw' : IntKind.i64.wrap ((((d + 1 : Nat)) : Int) - 1) = ((d : Nat) : Int) := by rw [wrap_ok (by omega) (by omega)]; omega
    have hgo : ∀ (inn : List Int), AscTo inn (k + 1) → ∀ r ∈ row ++ [({ for_ := y, inn := inn, outs := [] } : ReasonD)], GoodR (k + 1) r := fun inn hi r mr => by
      rcases List.mem_append.1 mr with m | m
      · exact hr r m
      · rw [List.mem_singleton.1 m]; exact ⟨y0, y1, hi, rfl⟩
    cases b4 with
    | true =>
      simp only [if_true, Bool.false_eq_true, if_false]
      have hlt : row.length + 1 ≤ 1073741824 := by omega
      rw [chk_pos _ hlt, hw']
      exact ih _ ⟨c4, _, rfl, h4, hgo [] (AscTo.nil _), by simp; omega⟩
    | false =>
      simp only [Bool.false_eq_true, if_false]
      obtain ⟨l, c5, e5, a5, h5⟩ := l11Nodes_ok h4 (n := k + 1) (by omega) 2
      rw [e5]; simp only [Option.bind_some]
      have hlt : row.length + 1 ≤ 1073741824 := by omega
      rw [chk_pos _ hlt, hw']
      exact ih _ ⟨c5, _, rfl, h5, hgo l a5, by simp; omega⟩
theorem GoodB.f {n : Nat} {b : BeliefsD} (h : GoodB n b) {a q : List Int} (ha : AscTo a n) (h5 : a.length ≤ 5) (hq : AscTo q n) : isFrameB { beliefs := b, assumed := a, bad := q } = true ∧ SmallF { beliefs := b, assumed := a, bad := q } := by
  have hn := h.n1
  constructor
  · simp only [isFrameB, isBeliefsB, Bool.and_eq_true, decide_eq_true_eq, h.nodes]
    exact ⟨⟨by omega, by omega, h.len, List.all_eq_true.2 fun r mr => (h.R r mr).b.1⟩, by omega, ha.b, hq.b, List.all_eq_true.2 fun r mr => (h.R r mr).b.2⟩
  · refine ⟨fun r mr => ⟨?_, ?_⟩, ?_, ?_, ?_⟩
    · have := (h.R r mr).inn.len; omega
    · rw [(h.R r mr).outs]; simp
    · have := h.len; show b.reasons.length ≤ _; omega
    · show a.length ≤ _; omega
    · have := hq.len; show q.length ≤ _; omega
theorem l13Draw_ok {c : l1CurD} (h : CurOk c) : ∃ f c', s_l13Draw c = some (f, c') ∧ isFrameB f = true ∧ SmallF f ∧ 0 < f.beliefs.nodes ∧ CurOk c' := by
  unfold s_l13Draw
  obtain ⟨n, b, c1, e1, hb, h1⟩ := l11Draw_ok h
  rw [e1]; simp only [Option.bind_some]
  have hn := hb.n1
  rw [hb.nodes]
  have key : ∀ (d i : Nat) (cc : l1CurD) (row : List Int), i + d = n → CurOk cc → AscTo row i → row.length ≤ 5 → ∃ f c', iter (σ := (List Int) × Int × Int × (List Int) × Int)
    (fun s =>
      match s with
      | (f_3, f_4, f_5, row_9, i_6) =>
      if (decide (i_6 < ((n : Nat) : Int))) = true then
        if (decide (((row_9.length : Nat) : Int) < 5)) = true then
          (s_l1Once ({ b := f_3, i := f_4, h := f_5 } : l1CurD) 3).bind fun v10 =>
          if v10.1 = true then
            some (.inl (v10.2.b, v10.2.i, v10.2.h, row_9, (IntKind.i64.wrap (i_6 + 1))))
          else
            chk (row_9.length + 1 ≤ 1073741824) <|
            some (.inl (v10.2.b, v10.2.i, v10.2.h, (row_9 ++ [i_6]), (IntKind.i64.wrap (i_6 + 1))))
        else
          (s_l11Nodes ({ b := f_3, i := f_4, h := f_5 } : l1CurD) ((n : Nat) : Int) 2).bind fun v11 =>
          some (.inr (({ beliefs := b, assumed := row_9, bad := v11.1 } : FrameD), v11.2))
      else
        (s_l11Nodes ({ b := f_3, i := f_4, h := f_5 } : l1CurD) ((n : Nat) : Int) 2).bind fun v12 =>
        some (.inr (({ beliefs := b, assumed := row_9, bad := v12.1 } : FrameD), v12.2))) (cc.b, cc.i, cc.h, row, ((i : Nat) : Int)) = some (f, c') ∧ isFrameB f = true ∧ SmallF f ∧ 0 < f.beliefs.nodes ∧ CurOk c' := by
    intro d
    have fin : ∀ (cc : l1CurD) (row : List Int), CurOk cc → AscTo row n → row.length ≤ 5 → ∃ f c', ((s_l11Nodes cc ((n : Nat) : Int) 2).bind fun v12 => some (({ beliefs := b, assumed := row, bad := v12.1 } : FrameD), v12.2)) = some (f, c') ∧ isFrameB f = true ∧ SmallF f ∧ 0 < f.beliefs.nodes ∧ CurOk c' := fun cc row hc hr h5 => by
      obtain ⟨l, c2, e2, a2, h2⟩ := l11Nodes_ok hc (n := n) (by omega) 2
      rw [e2]
      have := hb.f hr h5 a2
      exact ⟨_, _, rfl, this.1, this.2, by show 0 < b.nodes; rw [hb.nodes]; have := hb.n0; omega, h2⟩
    induction d with
    | zero =>
      intro i cc row hi hc hr h5
      have : i = n := by omega
      subst this
      obtain ⟨f, c', e, hf⟩ := fin cc row hc hr h5
      refine ⟨f, c', ?_, hf⟩
      rw [iter_eq]
      simp only [Int.lt_irrefl, decide_false, Bool.false_eq_true, if_false]
      rw [show ({ b := cc.b, i := cc.i, h := cc.h } : l1CurD) = cc from rfl]
      obtain ⟨l, c2, e2, a2, h2⟩ := l11Nodes_ok hc (n := i) (by omega) 2
      rw [e2] at e ⊢
      exact e
    | succ d ih =>
      intro i cc row hi hc hr h5
      have hpos : decide (((i : Nat) : Int) < ((n : Nat) : Int)) = true := decide_eq_true (by omega)
      by_cases hm : ((row.length : Nat) : Int) < 5
      · rw [iter_eq]
        simp only [hpos, decide_eq_true hm, if_true]
        rw [show ({ b := cc.b, i := cc.i, h := cc.h } : l1CurD) = cc from rfl]
        obtain ⟨b2, c2, e2, h2⟩ := l1Once_ok hc (n := 3) (by omega) (by omega)
        rw [e2]; simp only [Option.bind_some]
        cases b2 with
        | true =>
          simp only [if_true]
          rw [i64_succ (by omega)]
          exact ih (i + 1) c2 _ (by omega) h2 hr.skip h5
        | false =>
          simp only [Bool.false_eq_true, if_false]
          rw [chk_pos _ (by omega), i64_succ (by omega)]
          exact ih (i + 1) c2 _ (by omega) h2 hr.put (by simp; omega)
      · obtain ⟨f, c', e, hf⟩ := fin cc row hc (hr.mono (by omega)) h5
        refine ⟨f, c', ?_, hf⟩
        rw [iter_eq]
        simp only [hpos, decide_eq_false hm, if_true, Bool.false_eq_true, if_false]
        rw [show ({ b := cc.b, i := cc.i, h := cc.h } : l1CurD) = cc from rfl]
        obtain ⟨l, c2, e2, a2, h2⟩ := l11Nodes_ok hc (n := n) (by omega) 2
        rw [e2] at e ⊢
        exact e
  exact key n 0 c1 [] (by omega) h1 (AscTo.nil 0) (by simp)
theorem DrawGoodFrame_ok (code : List Int) (h : code.length ≤ 4096) : ∃ f, s_DrawGoodFrame code = some f ∧ isFrameB f = true ∧ SmallF f ∧ 0 < f.beliefs.nodes := by
  obtain ⟨c, e1, h1⟩ := l1New_ok code h
  obtain ⟨f, c', e2, a, b, d, _⟩ := l13Draw_ok h1
  unfold s_DrawGoodFrame
  rw [e1]; simp only [Option.bind_some]; rw [e2]
  exact ⟨f, rfl, a, b, d⟩
end Go.Proofs.Ytfbonanbiblkbaa

namespace Go.Proofs.Ytfbonanbiblkbaa
open Classical
theorem iter_up {ρ : Type} {body : Int → Option (Int ⊕ ρ)} {r : ρ} (m : Nat) (h1 : ∀ k : Nat, k < m → body ((k : Nat) : Int) = some (.inl ((k + 1 : Nat) : Int))) (h2 : body ((m : Nat) : Int) = some (.inr r)) : ∀ (d k : Nat), k + d = m → iter body ((k : Nat) : Int) = some r
  | 0, k, hk => by
    have e : k = m := by omega
    subst e
    rw [iter_eq, h2]
  | d + 1, k, hk => by
    rw [iter_eq, h1 k (by omega)]
    exact iter_up m h1 h2 d (k + 1) (by omega)
theorem foldOr {α : Type} (p : α → Bool) : ∀ (l : List α) (c : Bool), l.foldl (fun s t => s || p t) c = (c || l.any p)
  | [], c => by simp
  | x :: l, c => by rw [List.foldl_cons, foldOr p l]; simp [Bool.or_assoc]
theorem any_part {r : List Int} {A : Nat → Prop} (h : Canon r A) (hf : ∀ y ∈ r, y ≤ 1000000) {u : Nat} (hu : u ≤ 1000000) : (r.any fun y => partB y ((u : Nat) : Int)) = true ↔ ∃ t, A t ∧ partN t u := by
  rw [List.any_eq_true]
  constructor
  · rintro ⟨y, my, hp⟩
    have := hf y my
    rw [partB_iff (by omega) (by omega)] at hp
    exact ⟨y.toNat, ((h.2 y).1 my).2.1, by simpa using hp.2.2⟩
  · rintro ⟨t, ht, p⟩
    obtain ⟨b, hb, q⟩ := min_of ht
    have mb : ((b : Nat) : Int) ∈ r := (h.2 _).2 ⟨by omega, by simpa using hb⟩
    have := hf _ mb
    refine ⟨_, mb, (partB_iff (by omega) (by omega)).2 ⟨by omega, by omega, ?_⟩⟩
    simpa using part_trans q p
theorem some_loop {ρ : Type} {l : List Int} {u : Int} {fin : Bool → Option ρ} : forL (σ := Bool) (fun (_ : Nat) (x24 : Int) some_18 => if some_18 = true then some (.inl true) else (i_IsPart x24 u).bind fun v25 => some (.inl v25)) fin l 0 false = fin (l.any fun y => partB y u) := by
  rw [forL_fold' (f := fun c y => c || partB y u), foldOr, Bool.false_or]
  intro i y c _
  rw [i_IsPart_eq, Option.bind_some]
  cases c <;> rfl
theorem least_again {r : List Int} {A : Nat → Prop} (h : Canon r A) (hl : r.length ≤ 1000) (hf : ∀ y ∈ r, y ≤ 1000000) : i_LeastSets r = some r := by
  obtain ⟨q, q1, q2, _, _⟩ := i_LeastSets_can r (by omega) fun y my => by have := hf y my; omega
  rw [q1, h.eq q2 h.cof h.cof']
theorem FnNogoods_plain (code : List Int) : w_FnNogoods code = some true := by
  unfold w_FnNogoods w_big
  simp only [Option.bind_some]
  cases hd : decide (4096 < ((code.length : Nat) : Int)) with
  | true => rfl
  | false =>
  have hlen : code.length ≤ 4096 := by simp at hd; omega
  rw [if_neg (by simp)]
  obtain ⟨f, e1, hv, hs, hn⟩ := DrawGoodFrame_ok code hlen
  rw [e1]; simp only [Option.bind_some]
  obtain ⟨r, r1, r2, r3, r4⟩ := i_Nogoods_can hv hs
  rw [r1]; simp only [Option.bind_some]
  obtain ⟨e, e64⟩ := shl_MF (FrOk.a6 hv)
  rw [e]
  have hf : ∀ y ∈ r, y ≤ 1000000 := fun y my => by have := r3 y my; omega
  refine iter_up (MF f) (fun k hk => ?_) ?_ (MF f) 0 (by omega)
  · show chk _ (if decide (((k : Nat) : Int) < ((MF f : Nat) : Int)) = true then _ else _) = _
    rw [chk_pos _ (by omega), if_pos (by simp only [decide_eq_true_eq]; omega), some_loop, i_cons_eq hv hs hk, Option.bind_some, i64_succ (by omega)]
    have key : (r.any fun y => partB y ((k : Nat) : Int)) = !decide (Cons f k) := by
      rw [Bool.eq_iff_iff, any_part r2 hf (by omega)]
      constructor
      · rintro ⟨t, ⟨_, h2⟩, p⟩
        simp only [ngB, Bool.not_eq_true', decide_eq_false_iff_not] at h2 ⊢
        exact fun hc => h2 (hc.anti p)
      · intro hc
        exact ⟨k, ⟨hk, hc⟩, part_refl k⟩
    rw [key]
    cases decide (Cons f k) <;> rfl
  · show chk _ (if decide (((MF f : Nat) : Int) < ((MF f : Nat) : Int)) = true then _ else _) = _
    rw [chk_pos _ (by omega), if_neg (by simp), least_again r2 (by omega) hf, Option.bind_some, w_ints_self]; rfl
theorem w_at_some (code : List Int) : ∃ z, w_at code 0 = some z := by
  unfold w_at
  by_cases h : code.length = 0
  · rw [if_pos (decide_eq_true (by omega))]; exact ⟨_, rfl⟩
  · rw [if_neg (by rw [decide_eq_true_iff]; omega)]
    have : atI code 0 = some code[0] := by
      unfold atI
      rw [if_pos (by omega)]
      exact List.getElem?_eq_getElem (by omega)
    rw [this]; exact ⟨_, rfl⟩
theorem HoldP.mono {f : FrameD} {x : Int} {s t : Nat} (h : partN s t) (hs : HoldP f x s) (hc : Cons f t) : HoldP f x t := ⟨hc, hs.2.mono h⟩
theorem FnLabels_plain (code : List Int) : w_FnLabels code = some true := by
  unfold w_FnLabels w_big
  simp only [Option.bind_some]
  cases hd : decide (4096 < ((code.length : Nat) : Int)) with
  | true => rfl
  | false =>
  have hlen : code.length ≤ 4096 := by simp at hd; omega
  rw [if_neg (by simp)]
  obtain ⟨f, e1, hv, hs, hn⟩ := DrawGoodFrame_ok code hlen
  rw [e1]; simp only [Option.bind_some]
  obtain ⟨z, ez⟩ := w_at_some code
  rw [ez]; simp only [Option.bind_some]
  rw [chk_pos _ (by omega)]
  generalize Int.tmod z f.beliefs.nodes = x
  obtain ⟨r, r1, r2, r3, r4⟩ := i_Label_can hv hs x
  rw [r1]; simp only [Option.bind_some]
  obtain ⟨e, e64⟩ := shl_MF (FrOk.a6 hv)
  rw [e]
  have hf : ∀ y ∈ r, y ≤ 1000000 := fun y my => by have := r3 y my; omega
  refine iter_up (MF f) (fun k hk => ?_) ?_ (MF f) 0 (by omega)
  · show chk _ (if decide (((k : Nat) : Int) < ((MF f : Nat) : Int)) = true then _ else _) = _
    rw [chk_pos _ (by omega), if_pos (by simp only [decide_eq_true_eq]; omega), some_loop, i_holds_eq hv hs x hk, Option.bind_some, i_cons_eq hv hs hk, Option.bind_some, i64_succ (by omega)]
    have key : (r.any fun y => partB y ((k : Nat) : Int)) = true ↔ ∃ t, (t < MF f ∧ lbB f x t = true) ∧ partN t k := any_part r2 hf (by omega)
    by_cases hx : (r.any fun y => partB y ((k : Nat) : Int)) = true
    · rw [if_pos hx]
      obtain ⟨t, ⟨_, h2⟩, p⟩ := key.1 hx
      have h3 : HoldP f x t := of_decide_eq_true h2
      have : decide (HoldP f x k) = decide (Cons f k) := by
        rw [Bool.eq_iff_iff, decide_eq_true_iff, decide_eq_true_iff]
        exact ⟨fun h => h.1, fun h => h3.mono p h⟩
      rw [this, beq_self_eq_true, if_pos rfl]
    · rw [if_neg hx]
      have : decide (HoldP f x k) = false := decide_eq_false fun h => hx (key.2 ⟨k, ⟨hk, decide_eq_true h⟩, part_refl k⟩)
      rw [this]; rfl
  · show chk _ (if decide (((MF f : Nat) : Int) < ((MF f : Nat) : Int)) = true then _ else _) = _
    rw [chk_pos _ (by omega), if_neg (by simp), forL_all (p := fun y => lbB f x y.toNat) (r := .inr false)]
    · rw [if_pos (List.all_eq_true.2 fun y my => (r3 y my).2.2), i_IsFrame_eq hs, hv, Option.bind_some, if_pos rfl, least_again r2 (by omega) hf, Option.bind_some, w_ints_self]; rfl
    · intro i y my
      obtain ⟨y0, y1, y2⟩ := r3 y my
      obtain ⟨m, rfl⟩ := Int.eq_ofNat_of_zero_le y0
      rw [i_holds_eq hv hs x (by omega), Option.bind_some]
      rw [show lbB f x ((m : Nat) : Int).toNat = decide (HoldP f x m) by simp [lbB]]
      cases decide (HoldP f x m) <;> rfl
/-- the rest of a set -/
def cN (f : FrameD) (s : Nat) : Nat := 2 ^ f.assumed.length - (s + 1)
theorem cN_lt (f : FrameD) (s : Nat) : cN f s < MF f := by
  have := MF_pos f
  unfold cN
  unfold MF at *
  omega
theorem cN_cN {f : FrameD} {s : Nat} (h : s < MF f) : cN f (cN f s) = s := by
  unfold cN
  unfold MF at h
  omega
theorem cN_bit {f : FrameD} {s : Nat} (h : s < MF f) (i : Nat) : (cN f s).testBit i = (decide (i < f.assumed.length) && !s.testBit i) := Nat.testBit_two_pow_sub_succ h i
theorem cN_part {f : FrameD} {s t : Nat} (hs : s < MF f) (ht : t < MF f) (h : partN s t) : partN (cN f t) (cN f s) := part_iff.2 fun i hi => by
  rw [cN_bit ht] at hi
  rw [cN_bit hs]
  simp only [Bool.and_eq_true, Bool.not_eq_true', decide_eq_true_eq] at hi ⊢
  refine ⟨hi.1, ?_⟩
  cases hb : s.testBit i with
  | false => rfl
  | true => rw [part_iff.1 h i hb] at hi; simp at hi
theorem meets_cN {f : FrameD} {s x : Nat} (hs : s < MF f) (hx : x < MF f) : meets s x ↔ ¬ partN x (cN f s) := by
  rw [meets_iff]
  constructor
  · rintro ⟨i, h1, h2⟩ hp
    have := part_iff.1 hp i h2
    rw [cN_bit hs, h1] at this
    simp at this
  · intro hn
    refine Classical.byContradiction fun hc => hn (part_iff.2 fun i hi => ?_)
    rw [cN_bit hs]
    have h1 : i < f.assumed.length := bits_lt hx hi
    have h2 : s.testBit i = false := by
      cases hb : s.testBit i with
      | false => rfl
      | true => exact absurd ⟨i, hb, hi⟩ hc
    simp [h1, h2]
theorem hit_cons {f : FrameD} {r : List Int} (h : Canon r (fun s => s < MF f ∧ ngB f s = true)) (s : Nat) : Hit f.assumed.length (memP r) s ↔ s < MF f ∧ Cons f (cN f s) := by
  constructor
  · rintro ⟨h1, h2⟩
    refine ⟨h1, Classical.byContradiction fun hc => ?_⟩
    have : ngB f (cN f s) = true := by simp [ngB, hc]
    obtain ⟨b, hb, p⟩ := min_of (A := fun s => s < MF f ∧ ngB f s = true) ⟨cN_lt f s, this⟩
    exact (meets_cN h1 hb.1.1).1 (h2 b ((h.memP b).2 hb)) p
  · rintro ⟨h1, h2⟩
    refine ⟨h1, fun x mx => ?_⟩
    have hx := ((h.memP x).1 mx).1
    refine (meets_cN h1 hx.1).2 fun p => ?_
    have := hx.2
    simp only [ngB, Bool.not_eq_true', decide_eq_false_iff_not] at this
    exact this (h2.anti p)
theorem mem_great {f : FrameD} (hv : isFrameB f = true) (x : Int) : x ∈ (okL f).filter (greatB (okL f)) ↔ ∃ k, k < MF f ∧ x = ((k : Nat) : Int) ∧ Cons f k ∧ ∀ t, t < MF f → Cons f t → partN k t → t = k := by
  have h64 := (shl_MF (FrOk.a6 hv)).2
  have hm : ∀ y, y ∈ okL f ↔ ∃ k, k < MF f ∧ y = ((k : Nat) : Int) ∧ Cons f k := fun y => by
    unfold okL
    rw [(setL_spec _ _).2.2]
    simp [okB]
  rw [List.mem_filter, hm]
  constructor
  · rintro ⟨⟨k, a, rfl, c⟩, g⟩
    refine ⟨k, a, rfl, c, fun t ht hc hp => ?_⟩
    have := List.all_eq_true.1 g ((t : Nat) : Int) ((hm _).2 ⟨t, ht, rfl, hc⟩)
    simp only [Bool.or_eq_true, beq_iff_eq, Bool.not_eq_true'] at this
    rcases this with h | h
    · omega
    · have : partB ((k : Nat) : Int) ((t : Nat) : Int) = true := (partB_iff (by omega) (by omega)).2 ⟨by omega, by omega, by simpa using hp⟩
      rw [this] at h; simp at h
  · rintro ⟨k, a, rfl, c, g⟩
    refine ⟨⟨k, a, rfl, c⟩, List.all_eq_true.2 fun y my => ?_⟩
    obtain ⟨t, ht, rfl, hc⟩ := (hm y).1 my
    simp only [Bool.or_eq_true, beq_iff_eq, Bool.not_eq_true']
    by_cases hp : partN k t
    · left; rw [g t ht hc hp]
    · right
      cases hb : partB ((k : Nat) : Int) ((t : Nat) : Int) with
      | false => rfl
      | true =>
        rw [partB_iff (by omega) (by omega)] at hb
        exact absurd (by simpa using hb.2.2) hp
theorem pair_rev {l : List Int} {m : Int} (h : l.Pairwise (· < ·)) : ((l.map fun y => m - y).reverse).Pairwise (· < ·) := by
  rw [List.pairwise_reverse, List.pairwise_map]
  exact h.imp fun hxy => by omega
theorem great_hits {f : FrameD} (hv : isFrameB f = true) {r q : List Int} (h : Canon r (fun s => s < MF f ∧ ngB f s = true)) (hq : Canon q (Hit f.assumed.length (memP r))) (hb : ∀ y ∈ q, 0 ≤ y ∧ y < ((MF f : Nat) : Int)) : (q.map fun y => ((MF f : Nat) : Int) - 1 - y).reverse = (okL f).filter (greatB (okL f)) := by
  have hw : (okL f).Pairwise (· < ·) := (setL_spec _ _).1
  refine asc_extI (pair_rev hq.1) (hw.sublist List.filter_sublist) fun x => ?_
  rw [List.mem_reverse, List.mem_map, mem_great hv]
  have hc : ∀ s, s < MF f → ((cN f s : Nat) : Int) = ((MF f : Nat) : Int) - 1 - ((s : Nat) : Int) := fun s hs => by
    unfold cN
    unfold MF at *
    omega
  have hH := hit_cons h
  constructor
  · rintro ⟨y, my, rfl⟩
    obtain ⟨y0, y1⟩ := hb y my
    have hm := ((hq.2 y).1 my).2
    obtain ⟨s, rfl⟩ := Int.eq_ofNat_of_zero_le y0
    rw [Int.toNat_natCast] at hm
    obtain ⟨a1, a2⟩ := (hH s).1 hm.1
    refine ⟨cN f s, cN_lt f s, (hc s a1).symm, a2, fun t ht hct hp => ?_⟩
    have := hm.2 (cN f t) ((hH _).2 ⟨cN_lt f t, by rw [cN_cN ht]; exact hct⟩) (by
      have := cN_part (cN_lt f s) ht hp
      rwa [cN_cN a1] at this)
    rw [← this, cN_cN ht]
  · rintro ⟨k, a, rfl, c, g⟩
    refine ⟨((cN f k : Nat) : Int), (hq.2 _).2 ⟨by omega, ?_⟩, by rw [hc k a]; omega⟩
    rw [Int.toNat_natCast]
    refine ⟨(hH _).2 ⟨cN_lt f k, by rw [cN_cN a]; exact c⟩, fun t ht hp => ?_⟩
    obtain ⟨t1, t2⟩ := (hH t).1 ht
    have := g (cN f t) (cN_lt f t) t2 (by
      have := cN_part t1 (cN_lt f k) hp
      rwa [cN_cN a] at this)
    rw [← this, cN_cN t1]
theorem FnGreatest_plain (code : List Int) : w_FnGreatest code = some true := by
  unfold w_FnGreatest w_big
  simp only [Option.bind_some]
  cases hd : decide (4096 < ((code.length : Nat) : Int)) with
  | true => rfl
  | false =>
  have hlen : code.length ≤ 4096 := by simp at hd; omega
  rw [if_neg (by simp)]
  obtain ⟨f, e1, hv, hs, hn⟩ := DrawGoodFrame_ok code hlen
  rw [e1]; simp only [Option.bind_some]
  obtain ⟨r, r1, r2, r3, r4⟩ := i_Nogoods_can hv hs
  rw [r1]; simp only [Option.bind_some]
  have h6 := FrOk.a6 hv
  obtain ⟨e, e64⟩ := shl_MF h6
  have hp := MF_pos f
  obtain ⟨q, q1, q2, q3, q4⟩ := i_Hit_can (l := r) (n := ((f.assumed.length : Nat) : Int)) (by omega) (by omega) fun x mx => by
    rw [Int.toNat_natCast]
    have := r3 x mx
    exact ⟨this.1, this.2.1⟩
  rw [Int.toNat_natCast] at q2 q3
  rw [q1]; simp only [Option.bind_some]
  rw [i_Great_run hv hs, s_Great_run hv hs]; simp only [Option.bind_some]
  have hg := great_hits hv r2 q2 q3
  have hlen2 : q.length = ((okL f).filter (greatB (okL f))).length := by rw [← hg]; simp
  rw [if_neg (by simp), if_neg (by rw [hlen2]; simp), e, forL_all (p := fun _ => true) (r := false)]
  · simp
  · intro i y my
    obtain ⟨y0, y1⟩ := q3 y my
    have y1' : y < ((MF f : Nat) : Int) := y1
    rw [chk_pos _ (by omega), wrap_ok (x := ((MF f : Nat) : Int) - 1) (by omega) (by omega), wrap_ok (by omega) (by omega), w_hasInt_eq, Option.bind_some]
    have : hasB ((okL f).filter (greatB (okL f))) (((MF f : Nat) : Int) - 1 - y) = true := by
      rw [hasB_iff, ← hg, List.mem_reverse, List.mem_map]
      exact ⟨y, my, rfl⟩
    rw [this]; rfl
end Go.Proofs.Ytfbonanbiblkbaa

namespace Go.Proofs.Ytfbonanbiblkbaa
open Classical
theorem forL_preA {α σ ρ : Type} {body : Nat → α → σ → Option (σ ⊕ ρ)} (I : List α → σ → Prop) : ∀ (l pre : List α) (s : σ), I pre s → (∀ p x s, x ∈ l → p.length < pre.length + l.length → I p s → ∃ s', body p.length x s = some (.inl s') ∧ I (p ++ [x]) s') → ∃ s', (∀ fin : σ → Option ρ, forL body fin l pre.length s = fin s') ∧ I (pre ++ l) s'
  | [], pre, s, h, _ => ⟨s, fun _ => rfl, by simpa using h⟩
  | x :: l, pre, s, h, hs => by
    obtain ⟨s', e, h'⟩ := hs pre x s (by simp) (by simp) h
    obtain ⟨s2, e2, h2⟩ := forL_preA I l (pre ++ [x]) s' h' fun p y s m hp hI => hs p y s (by simp [m]) (by simp at hp ⊢; omega) hI
    refine ⟨s2, fun fin => ?_, by simpa using h2⟩
    rw [forL_next e]
    simpa using e2 fin
theorem forL_runA {α σ ρ : Type} {body : Nat → α → σ → Option (σ ⊕ ρ)} (I : List α → σ → Prop) (l : List α) (s : σ) (h : I [] s) (hs : ∀ p x s, x ∈ l → p.length < l.length → I p s → ∃ s', body p.length x s = some (.inl s') ∧ I (p ++ [x]) s') : ∃ s', (∀ fin : σ → Option ρ, forL body fin l 0 s = fin s') ∧ I l s' := by
  obtain ⟨s', e, h'⟩ := forL_preA I l [] s h fun p x s m hp hI => hs p x s m (by simpa using hp) hI
  exact ⟨s', e, by simpa using h'⟩
theorem app_at {l : List Int} {x y : Int} {i : Nat} : (l ++ [y])[i]? = some x ↔ l[i]? = some x ∨ (i = l.length ∧ y = x) := by
  by_cases h1 : i < l.length
  · rw [List.getElem?_append_left h1]
    exact ⟨.inl, fun h => h.elim id fun h => by omega⟩
  · rw [List.getElem?_append_right (by omega), List.getElem?_eq_none (l := l) (by omega)]
    by_cases h2 : i = l.length
    · subst h2; simp
    · rw [List.getElem?_eq_none (by simp; omega)]
      simp [h2]
/-- the sets that make a reason's nodes hold, so far -/
structure StepI (f : FrameD) (pre : List Int) (row : List Int) : Prop where
  bnd : ∀ z ∈ row, 0 ≤ z ∧ z < ((MF f : Nat) : Int)
  len : row.length ≤ 64
  snd : ∀ z ∈ row, ∀ y ∈ pre, UnF f z.toNat y
  cmp : ∀ t, t < MF f → Cons f t → (∀ y ∈ pre, UnF f t y) → ∃ s, memP row s ∧ partN s t
theorem StepI.nil (f : FrameD) : StepI f [] [0] := by
  have := MF_pos f
  refine ⟨fun z mz => ?_, by simp, fun z _ y my => by simp at my, fun t _ _ _ => ⟨0, by simp [memP], part_iff.2 fun i hi => by simp at hi⟩⟩
  rw [List.mem_singleton.1 mz]; omega
theorem StepI.next {f : FrameD} (hv : isFrameB f = true) (hs : SmallF f) {pre row : List Int} (h : StepI f pre row) (y : Int) : ∃ l r, i_LabelFor f y = some l ∧ i_UnionsOf row l = some r ∧ StepI f (pre ++ [y]) r := by
  have h64 := (shl_MF (FrOk.a6 hv)).2
  obtain ⟨l, l1, l2, l3, l4⟩ := i_Label_can hv hs y
  have hmul : row.length * l.length ≤ 64 * 64 := Nat.mul_le_mul h.len l4
  obtain ⟨r, r1, r2, r3, _⟩ := i_UnionsOf_can row l (by omega) (fun z mz => by have := h.bnd z mz; omega) (fun z mz => by have := l3 z mz; omega)
  refine ⟨l, r, l1, r1, ?_⟩
  have hr : ∀ z ∈ r, ∃ a b : Nat, memP row a ∧ memP l b ∧ z = ((a ||| b : Nat) : Int) ∧ a < MF f ∧ b < MF f ∧ lbB f y b = true := fun z mz => by
    obtain ⟨z0, hm⟩ := (r2.2 z).1 mz
    obtain ⟨a, b, ma, mb, e⟩ := hm.1
    have h1 := h.bnd _ ma
    have h2 := l3 _ mb
    exact ⟨a, b, ma, mb, by omega, by omega, by omega, by simpa using h2.2.2⟩
  have hb : ∀ z ∈ r, 0 ≤ z ∧ z < ((MF f : Nat) : Int) := fun z mz => by
    obtain ⟨a, b, _, _, rfl, ha, hb, _⟩ := hr z mz
    have : a ||| b < MF f := Nat.or_lt_two_pow ha hb
    omega
  refine ⟨hb, ?_, fun z mz x mx => ?_, fun t ht hc hx => ?_⟩
  · have := asc_small (n := MF f) r2.1 fun z mz => by have := hb z mz; omega
    omega
  · obtain ⟨a, b, ma, _, rfl, _, _, hl⟩ := hr z mz
    rw [Int.toNat_natCast]
    rcases List.mem_append.1 mx with m | m
    · have := h.snd _ ma x m
      rw [Int.toNat_natCast] at this
      exact this.mono (part_orl a b)
    · rw [List.mem_singleton.1 m]
      have : HoldP f y b := of_decide_eq_true hl
      exact this.2.mono (part_orr a b)
  · obtain ⟨a, ma, pa⟩ := h.cmp t ht hc fun x mx => hx x (by simp [mx])
    have hy : lbB f y t = true := decide_eq_true ⟨hc, hx y (by simp)⟩
    obtain ⟨b, hb1, pb⟩ := min_of (A := fun s => s < MF f ∧ lbB f y s = true) ⟨ht, hy⟩
    obtain ⟨c, hc1, pc⟩ := min_of (A := Un (memP row) (memP l)) ⟨a, b, ma, (l2.memP b).2 hb1, rfl⟩
    exact ⟨c, (r2.memP c).2 hc1, part_trans pc (part_lub pa pb)⟩
/-- the sets found for a node, reason by reason -/
structure RowI (f : FrameD) (x : Int) (pre : List ReasonD) (row : List Int) : Prop where
  bnd : ∀ z ∈ row, 0 ≤ z ∧ z < ((MF f : Nat) : Int)
  len : row.length ≤ 100 + 100 * pre.length
  snd : ∀ z ∈ row, UnF f z.toNat x
  cmp : ∀ r ∈ pre, r.for_ = x → ∀ t, t < MF f → Cons f t → (∀ y ∈ r.inn, UnF f t y) → ∃ s, memP row s ∧ partN s t
  asm : ∀ i : Nat, f.assumed[i]? = some x → memP row (2 ^ i)
theorem FnLabelStep_plain (code : List Int) : w_FnLabelStep code = some true := by
  unfold w_FnLabelStep w_big
  simp only [Option.bind_some]
  cases hd : decide (4096 < ((code.length : Nat) : Int)) with
  | true => rfl
  | false =>
  have hlen : code.length ≤ 4096 := by simp at hd; omega
  rw [if_neg (by simp)]
  obtain ⟨f, e1, hv, hs, hn⟩ := DrawGoodFrame_ok code hlen
  rw [e1]; simp only [Option.bind_some]
  obtain ⟨z, ez⟩ := w_at_some code
  rw [ez]; simp only [Option.bind_some]
  rw [chk_pos _ (by omega)]
  generalize Int.tmod z f.beliefs.nodes = x
  have hF := FrOk.of hv
  have h64 := (shl_MF hF.a1).2
  obtain ⟨l, l1, l2, l3, l4⟩ := i_Label_can hv hs x
  rw [s_Label_same hv hs, l1]
  simp only [Option.bind_some]
  -- the assumed nodes
  obtain ⟨row1, q1, I1⟩ := forL_runA (body := fun (i101 : Nat) (x102 : Int) (row_5 : List Int) =>
        if (x102 == x) = true then
          chk (¬ ((i101 : Nat) : Int) < 0) <|
          chk (row_5.length + 1 ≤ 1073741824) <|
          some (.inl (row_5 ++ [(shlI .i64 1 ((i101 : Nat) : Int))]))
        else
          (some (.inl row_5) : Option (List Int ⊕ Bool))) (fun (pre : List Int) (row : List Int) => row.length ≤ pre.length ∧ ∀ z, z ∈ row ↔ ∃ i : Nat, pre[i]? = some x ∧ z = ((2 ^ i : Nat) : Int)) f.assumed [] ⟨by simp, by simp⟩ fun p y s my hp hI => by
    have := hF.a1
    by_cases hy : y = x
    · subst hy
      obtain ⟨e, _⟩ := shl_pow (n := ((p.length : Nat) : Int)) (by omega) (by omega)
      rw [Int.toNat_natCast] at e
      refine ⟨s ++ [((2 ^ p.length : Nat) : Int)], ?_, by have := hI.1; simp; omega, fun z => ?_⟩
      · rw [if_pos (by simp), chk_pos _ (by omega), chk_pos _ (by have := hI.1; omega), e]
      · rw [List.mem_append, hI.2, List.mem_singleton]
        constructor
        · rintro (⟨i, h1, h2⟩ | h)
          · exact ⟨i, app_at.2 (.inl h1), h2⟩
          · exact ⟨p.length, app_at.2 (.inr ⟨rfl, rfl⟩), h⟩
        · rintro ⟨i, h1, h2⟩
          rcases app_at.1 h1 with h | ⟨rfl, _⟩
          · exact .inl ⟨i, h, h2⟩
          · exact .inr h2
    · refine ⟨s, by rw [if_neg (by simpa using hy)], by have := hI.1; simp; omega, fun z => ?_⟩
      rw [hI.2]
      constructor
      · rintro ⟨i, h1, h2⟩; exact ⟨i, app_at.2 (.inl h1), h2⟩
      · rintro ⟨i, h1, h2⟩
        rcases app_at.1 h1 with h | ⟨_, h⟩
        · exact ⟨i, h, h2⟩
        · exact absurd h hy
  rw [q1]
  have hi : ∀ i : Nat, f.assumed[i]? = some x → i < f.assumed.length := fun i h => (List.getElem?_eq_some_iff.1 h).1
  have hM : ∀ i : Nat, i < f.assumed.length → 2 ^ i < MF f := fun i h => Nat.pow_lt_pow_right (by omega) h
  have hst : ∀ i : Nat, f.assumed[i]? = some x → UnF f (2 ^ i) x := fun i h => UnF_iff.2 (.inl ⟨i, h, by simp⟩)
  have R0 : RowI f x [] row1 := by
    refine ⟨fun z mz => ?_, by have := I1.1; have := hF.a1; simp; omega, fun z mz => ?_, by simp, fun i h => (I1.2 _).2 ⟨i, h, rfl⟩⟩
    · obtain ⟨i, h1, rfl⟩ := (I1.2 z).1 mz
      exact ⟨Int.natCast_nonneg _, Int.ofNat_lt.2 (hM i (hi i h1))⟩
    · obtain ⟨i, h1, rfl⟩ := (I1.2 z).1 mz
      rw [Int.toNat_natCast]
      exact hst i h1
  -- the reasons
  obtain ⟨row2, q2, I2⟩ := forL_runA (body := fun (i163 : Nat) (x164 : ReasonD) (row_130 : List Int) =>
            if (x164.for_ != x) = true then
              (some (.inl row_130) : Option (List Int ⊕ Bool))
            else
              forL (σ := (List Int))
                (fun (i173 : Nat) (x174 : Int) row_168 =>
                  (i_LabelFor f x174).bind fun v175 =>
                  (i_UnionsOf row_168 v175).bind fun v176 =>
                  some (.inl v176))
                (fun row_168 =>
                  chk (row_130.length + row_168.length ≤ 1073741824) <|
                  some (.inl (row_130 ++ row_168)))
                x164.inn 0 [0]) (RowI f x) f.beliefs.reasons row1 R0 fun p r row mr hp hI => by
    have hr1 := hF.r1
    by_cases hy : r.for_ = x
    · obtain ⟨row3, q3, I3⟩ := forL_runA (ρ := List Int ⊕ Bool) (body := fun (i173 : Nat) (x174 : Int) (row_168 : List Int) =>
                  (i_LabelFor f x174).bind fun v175 =>
                  (i_UnionsOf row_168 v175).bind fun v176 =>
                  some (.inl v176)) (StepI f) r.inn [0] (StepI.nil f) fun p y s my hp hI => by
        obtain ⟨l, r, e1, e2, h⟩ := hI.next hv hs y
        exact ⟨r, by rw [e1, Option.bind_some, e2]; rfl, h⟩
      have l3 := I3.len
      have l0 := hI.len
      refine ⟨row ++ row3, by rw [if_neg (by simpa using hy), q3, chk_pos _ (by omega)], fun z mz => ?_, by simp; omega, fun z mz => ?_, fun q mq hq t ht hc hx => ?_, fun i h => List.mem_append.2 (.inl (hI.asm i h))⟩
      · exact (List.mem_append.1 mz).elim (hI.bnd z) (I3.bnd z)
      · rcases List.mem_append.1 mz with m | m
        · exact hI.snd z m
        · exact UnF_iff.2 (.inr ⟨r, mr, hy, fun y my => I3.snd z m y my⟩)
      · rcases List.mem_append.1 mq with m | m
        · obtain ⟨s, ms, ps⟩ := hI.cmp q m hq t ht hc hx
          exact ⟨s, List.mem_append.2 (.inl ms), ps⟩
        · rw [List.mem_singleton.1 m] at hx
          obtain ⟨s, ms, ps⟩ := I3.cmp t ht hc hx
          exact ⟨s, List.mem_append.2 (.inr ms), ps⟩
    · refine ⟨row, by rw [if_pos (by simpa using hy)], hI.bnd, by have := hI.len; simp; omega, hI.snd, fun q mq hq t ht hc hx => ?_, hI.asm⟩
      rcases List.mem_append.1 mq with m | m
      · exact hI.cmp q m hq t ht hc hx
      · rw [List.mem_singleton.1 m] at hq
        exact absurd hq hy
  rw [q2]
  have l2' := I2.len
  have hr1 := hF.r1
  rw [forL_filter (p := fun z => decide (Cons f z.toNat))]
  · have hfit : Fit (row2.filter fun z => decide (Cons f z.toNat)) := fun z mz => by
      have := I2.bnd z (List.mem_filter.1 mz).1; omega
    have hle : (row2.filter fun z => decide (Cons f z.toNat)).length ≤ row2.length := List.length_filter_le _ _
    obtain ⟨q, e1, e2, _, _⟩ := i_LeastSets_can (row2.filter fun z => decide (Cons f z.toNat)) (by omega) hfit
    have hq : q = l := e2.eq l2 (fun s ms => by
      have m : ((s : Nat) : Int) ∈ row2.filter fun z => decide (Cons f z.toNat) := ms
      obtain ⟨m1, m2⟩ := List.mem_filter.1 m
      have m3 : Cons f s := by simpa using m2
      have b := I2.bnd _ m1
      have u := I2.snd _ m1
      rw [Int.toNat_natCast] at u
      exact ⟨s, ⟨by omega, decide_eq_true ⟨m3, u⟩⟩, part_refl s⟩) (fun t ht => by
      have hp : HoldP f x t := of_decide_eq_true ht.2
      have put : ∀ s, memP row2 s → partN s t → ∃ s, memP (row2.filter fun z => decide (Cons f z.toNat)) s ∧ partN s t := fun s ms ps => ⟨s, List.mem_filter.2 ⟨ms, by simpa using hp.1.anti ps⟩, ps⟩
      rcases UnF_iff.1 hp.2 with ⟨i, h1, h2⟩ | ⟨r, mr, hr, hx⟩
      · refine put (2 ^ i) (I2.asm i h1) (part_iff.2 fun j hj => ?_)
        rw [Nat.testBit_two_pow] at hj
        have : i = j := of_decide_eq_true hj
        rw [← this]; exact h2
      · obtain ⟨s, ms, ps⟩ := I2.cmp r mr hr t ht.1 hp.1 hx
        exact put s ms ps)
    subst hq
    simp only [List.nil_append]
    rw [if_neg (by simp), e1, Option.bind_some, w_ints_self]
    rfl
  · intro j z s mz hj
    obtain ⟨z0, z1⟩ := I2.bnd z mz
    obtain ⟨m, rfl⟩ := Int.eq_ofNat_of_zero_le z0
    simp only [List.length_nil, Nat.zero_add] at hj
    rw [i_cons_eq hv hs (by omega), Option.bind_some, Int.toNat_natCast]
    by_cases hc : Cons f m
    · simp only [decide_eq_true hc, if_true]
      rw [chk_pos _ (by omega)]
    · simp [decide_eq_false hc]
end Go.Proofs.Ytfbonanbiblkbaa

namespace Go.Proofs.Ytfbonanbiblkbaa
open Go.RowKit
def All2 {α β : Type} (R : α → β → Prop) : List α → List β → Prop
  | [], [] => True
  | a :: l, b :: r => R a b ∧ All2 R l r
  | _, _ => False
section
variable {α β : Type} {R R' : α → β → Prop}
theorem All2.len : ∀ {l : List α} {r : List β}, All2 R l r → l.length = r.length
  | [], [], _ => rfl
  | _ :: _, _ :: _, h => by simp [h.2.len]
  | [], _ :: _, h => h.elim
  | _ :: _, [], h => h.elim
theorem All2.mono : ∀ {l : List α} {r : List β}, All2 R l r → (∀ a b, a ∈ l → R a b → R' a b) → All2 R' l r
  | [], [], _, _ => trivial
  | _ :: _, _ :: _, h, f => ⟨f _ _ (by simp) h.1, h.2.mono fun a b m => f a b (by simp [m])⟩
  | [], _ :: _, h, _ => h.elim
  | _ :: _, [], h, _ => h.elim
theorem All2.at : ∀ {l : List α} {r : List β} {i : Nat} {a : α}, All2 R l r → l[i]? = some a → ∃ b, r[i]? = some b ∧ R a b
  | [], [], _, _, _, h => by simp at h
  | _ :: _, b :: _, 0, _, h, e => by simp at e; subst e; exact ⟨b, by simp, h.1⟩
  | _ :: _, _ :: _, i + 1, a, h, e => by
    obtain ⟨b, h1, h2⟩ := h.2.at (i := i) (a := a) (by simpa using e)
    exact ⟨b, by simpa using h1, h2⟩
  | [], _ :: _, _, _, h, _ => h.elim
  | _ :: _, [], _, _, h, _ => h.elim
theorem All2.set : ∀ {l : List α} {r : List β} {i : Nat} {a : α} {b : β}, All2 R l r → R a b → All2 R (l.set i a) (r.set i b)
  | [], [], _, _, _, _, _ => trivial
  | _ :: _, _ :: _, 0, _, _, h, e => ⟨e, h.2⟩
  | _ :: _, _ :: _, _ + 1, _, _, h, e => ⟨h.1, h.2.set e⟩
  | [], _ :: _, _, _, _, h, _ => h.elim
  | _ :: _, [], _, _, _, h, _ => h.elim
theorem All2.drop : ∀ {l : List α} {r : List β} (n : Nat), All2 R l r → All2 R (l.drop n) (r.drop n)
  | _, _, 0, h => by simpa using h
  | [], [], n + 1, _ => by simp [All2]
  | _ :: _, _ :: _, n + 1, h => by simpa using h.2.drop n
  | [], _ :: _, _ + 1, h => h.elim
  | _ :: _, [], _ + 1, h => h.elim
theorem All2.take : ∀ {l : List α} {r : List β} (n : Nat), All2 R l r → All2 R (l.take n) (r.take n)
  | _, _, 0, h => by simp [All2]
  | [], [], n + 1, _ => by simp [All2]
  | _ :: _, _ :: _, n + 1, h => by simpa using ⟨h.1, h.2.take n⟩
  | [], _ :: _, _ + 1, h => h.elim
  | _ :: _, [], _ + 1, h => h.elim
theorem All2.append : ∀ {l l' : List α} {r r' : List β}, All2 R l r → All2 R l' r' → All2 R (l ++ l') (r ++ r')
  | [], _, [], _, _, h => h
  | _ :: _, _, _ :: _, _, h, h' => ⟨h.1, h.2.append h'⟩
  | [], _, _ :: _, _, h, _ => h.elim
  | _ :: _, _, [], _, h, _ => h.elim
end
/-- what stands behind the keys: the value, the block that it writes to, the blocks that its elements lead to -/
structure Gh where
  val : Nat → Value
  O : Nat → List Nat
  D : Nat → List Nat
  Z : Nat → Prop
/-- a block that may be written to: a row's or a box's of this call, or one of a call below (Z) -/
def Gh.own (g : Gh) (b : Nat) : Prop := (∃ k, b ∈ g.O k) ∨ g.Z b
/-- the world at the call's start, the blocks that calls below may write to (z), those that were handed in to be written to (x), and the first argument if it was handed in (hv) -/
structure Base extends World where
  z : Nat → Prop
  x : Nat → Prop
  hv : Option Value
structure Bel (W : Base) (w : World) : Prop where
  os : w.os = W.os
  tape : w.tape = W.tape
  output : w.output = W.output
  size : W.heap.size ≤ w.heap.size
  block : ∀ k, k < W.heap.size → ¬ W.x k → w.heap[k]? = W.heap[k]?
theorem Bel.trans {W : Base} {w w' : World} (h : Bel W w) (k : Below w.heap.size w w') : Bel W w' :=
  ⟨k.os.trans h.os, k.tape.trans h.tape, k.output.trans h.output, Nat.le_trans h.size k.size, fun i hi hx => (k.block i (Nat.lt_of_lt_of_le hi h.size)).trans (h.block i hi hx)⟩
def AVR (g : Gh) (w : World) : AV → Value → Prop
  | .c x, v => ∃ L, RC w x v L ∧ ∀ b ∈ L, ¬ g.own b
  | .row k, v => v = g.val k ∧ v.oneCell' = true
  | .nil _ _, v => v = .slice none 0 0
  | .dead, v => v.oneCell' = true
def PVR (g : Gh) (w : World) : Bool → List AV → Value → Prop
  | true, cs, v => ∃ vs : List Value, v = .agg vs.toArray ∧ All2 (AVR g w) cs vs
  | false, cs, v => ∃ x, cs = [x] ∧ AVR g w x v
def SVR (g : Gh) (w : World) : SV → Value → Prop
  | .any, _ => True
  | .und, v => v = undef
  | .p a cs, v => PVR g w a cs v
  | .tup xs, v => ∃ vs : List Value, v = .tuple vs.toArray ∧ All2 (fun x u => PVR g w x.1 x.2 u) xs vs
  | .bp k off, v => ∃ b, g.val k = .pointer (some ⟨b, 0, none⟩) ∧ v = .pointer (some ⟨b, off, none⟩)
  | .rp k m i off, v => ∃ b n c, g.val k = .slice (some ⟨b, 0, none⟩) n c ∧ v = .pointer (some ⟨b, i * m + off, none⟩)
  | .ep e off, v => ∃ b lo cs L, v = .pointer (some ⟨b, lo + off, none⟩) ∧ CellsAt w b lo cs ∧ RCs w e cs L ∧ (∀ x ∈ b :: L, ¬ g.own x) ∧ b < w.heap.size
  | .fn f, v => v = .func (.func f) #[] #[]
def ObR (g : Gh) (w : World) (k : Nat) : Ob → Prop
  | .gone => g.O k = [] ∧ g.D k = []
  | .box t cs => ∃ b vs, g.val k = .pointer (some ⟨b, 0, none⟩) ∧ g.O k = [b] ∧ g.D k = [] ∧ w.heap[b]? = some (.cells vs.toArray t (0, 0)) ∧ All2 (AVR g w) cs vs
  | .row e m xs d => 0 < m ∧ ∃ cs L, w.ownsRow 0 e m (g.val k) xs.length cs ∧ REs w m xs cs L ∧ ((d = 2 ∧ g.O k = (g.val k).ownBlock.toList ∧ g.D k = L) ∨ (d = 1 ∧ g.O k = (g.val k).ownBlock.toList ∧ g.D k = [] ∧ ∀ b ∈ L, ¬ g.own b) ∨ (d = 0 ∧ g.O k = [] ∧ g.D k = [] ∧ ∀ b ∈ (g.val k).ownBlock.toList ++ L, ¬ g.own b))
  | .map kk vk kv => ∃ b es c, g.val k = .map (some b) ∧ g.O k = [b] ∧ g.D k = [] ∧ w.heap[b]? = some (.map es c) ∧ mapOf es = kv ∧ mapOk kk vk kv
/-- what a row, a box or a map is in the heap -/
def PlainAt (w : World) (o : Ob) (b : Nat) : Prop :=
  match o with
  | .map _ _ _ => ∃ es c, w.heap[b]? = some (.map es c)
  | _ => ∃ cur e, w.heap[b]? = some (.cells cur e (0, 0))
theorem PlainAt.lt {w : World} {o : Ob} {b : Nat} (h : PlainAt w o b) : b < w.heap.size := by
  unfold PlainAt at h
  split at h
  · obtain ⟨_, _, h⟩ := h; exact (Array.getElem?_eq_some_iff.1 h).1
  · obtain ⟨_, _, h⟩ := h; exact (Array.getElem?_eq_some_iff.1 h).1
theorem PlainAt.keep {w w' : World} {o : Ob} {b : Nat} (h : PlainAt w o b) (e : w'.heap[b]? = w.heap[b]?) : PlainAt w' o b := by
  unfold PlainAt at h ⊢
  rw [e]; exact h
def mapB : Ob → Bool
  | .map _ _ _ => true
  | _ => false
theorem PlainAt.of {w : World} {o o' : Ob} {b : Nat} (h : PlainAt w o b) (e : mapB o' = mapB o) : PlainAt w o' b := by
  cases o <;> cases o' <;> simp [mapB] at e <;> exact h
structure HI (W : Base) (g : Gh) (ob : Nat → Ob) (w : World) : Prop where
  below : Bel W w
  obs : ∀ k, ObR g w k (ob k)
  nodup : ∀ k, (g.O k ++ g.D k).Nodup
  apart : ∀ k j, k ≠ j → ∀ b ∈ g.O k ++ g.D k, b ∉ g.O j ++ g.D j
  plain : ∀ k, ∀ b ∈ g.O k ++ g.D k, (W.heap.size ≤ b ∨ W.x b) ∧ PlainAt w (ob k) b
  gz : g.Z = W.z
  zx : ∀ b, W.z b → b < W.heap.size ∧ ¬ W.x b
/-- the keys that a state names -/
def avU (U : Nat → Prop) : AV → Prop
  | .row k => U k
  | _ => True
def avsU (U : Nat → Prop) (cs : List AV) : Prop := ∀ x ∈ cs, avU U x
def svU (U : Nat → Prop) : SV → Prop
  | .p _ cs => avsU U cs
  | .tup xs => ∀ x ∈ xs, avsU U x.2
  | .bp k _ => U k
  | .rp k _ _ _ => U k
  | _ => True
def obU (U : Nat → Prop) : Ob → Prop
  | .box _ cs => avsU U cs
  | _ => True
structure StU (U : Nat → Prop) (st : St) : Prop where
  sl : ∀ t, svU U (st.sl t)
  ob : ∀ k, obU U (st.ob k)
  gone : ∀ k, ¬ U k → st.ob k = .gone
theorem HI.lt {W : Base} {g : Gh} {ob : Nat → Ob} {w : World} (h : HI W g ob w) (k : Nat) : ∀ b ∈ g.O k ++ g.D k, b < w.heap.size := by
  intro b m
  exact (h.plain k b m).2.lt
theorem own_lt {w : World} {base : Nat} {e : TypeId} {size n : Nat} {v : Value} {xs : List Value} (h : w.ownsRow base e size v n xs) : ∀ b ∈ v.ownBlock.toList, b < w.heap.size := by
  rcases h.2 with ⟨h0, _⟩ | ⟨g, cap, cur, hv, _, hc, _⟩
  · simp [h0, Value.ownBlock]
  · intro b mb
    simp [hv, Value.ownBlock] at mb
    subst mb
    exact (Array.getElem?_eq_some_iff.1 hc).1
/-- what a row or a box leads to is no block of a call below -/
theorem HI.nz {W : Base} {g : Gh} {ob : Nat → Ob} {w : World} (h : HI W g ob w) {k b : Nat} (m : b ∈ g.O k ++ g.D k) : ¬ g.Z b := fun hz => by
  rw [h.gz] at hz
  obtain ⟨h1, h2⟩ := h.zx b hz
  rcases (h.plain k b m).1 with h3 | h3
  · omega
  · exact h2 h3
theorem ownsRow_keep {w w' : World} {base : Nat} {e : TypeId} {size n : Nat} {v : Value} {xs : List Value} (h : w.ownsRow base e size v n xs) (hk : ∀ b ∈ v.ownBlock.toList, w'.heap[b]? = w.heap[b]?) : w'.ownsRow base e size v n xs := by
  refine ⟨h.1, ?_⟩
  rcases h.2 with h0 | ⟨g, cap, cur, hv, hg, hc, r⟩
  · exact .inl h0
  · refine .inr ⟨g, cap, cur, hv, hg, ?_, r⟩
    rw [hk g (by simp [hv, Value.ownBlock])]
    exact hc
section
variable {g g' : Gh} {w w' : World} {U : Nat → Prop}
theorem AVR.move {x : AV} {v : Value} (h : AVR g w x v) (hx : avU U x) (hv : ∀ k, U k → g'.val k = g.val k)
    (hw : ∀ b, b < w.heap.size → ¬ g.own b → w'.heap[b]? = w.heap[b]?) (ho : ∀ b, g'.own b → g.own b ∨ w.heap.size ≤ b) : AVR g' w' x v := by
  cases x with
  | c x =>
    obtain ⟨L, h1, h2⟩ := h
    have hlt := h1.lt
    refine ⟨L, h1.keep fun b m => hw b (hlt b m) (h2 b m), fun b m o => ?_⟩
    rcases ho b o with o | o
    · exact h2 b m o
    · have := hlt b m; omega
  | row k => exact ⟨h.1.trans (hv k hx).symm, h.2⟩
  | nil e m => exact h
  | dead => exact h
theorem AVRs.move {cs : List AV} {vs : List Value} (h : All2 (AVR g w) cs vs) (hx : avsU U cs) (hv : ∀ k, U k → g'.val k = g.val k)
    (hw : ∀ b, b < w.heap.size → ¬ g.own b → w'.heap[b]? = w.heap[b]?) (ho : ∀ b, g'.own b → g.own b ∨ w.heap.size ≤ b) : All2 (AVR g' w') cs vs :=
  h.mono fun a _ m r => r.move (hx a m) hv hw ho
theorem PVR.move {a : Bool} {cs : List AV} {v : Value} (h : PVR g w a cs v) (hx : avsU U cs) (hv : ∀ k, U k → g'.val k = g.val k)
    (hw : ∀ b, b < w.heap.size → ¬ g.own b → w'.heap[b]? = w.heap[b]?) (ho : ∀ b, g'.own b → g.own b ∨ w.heap.size ≤ b) : PVR g' w' a cs v := by
  cases a with
  | true => obtain ⟨vs, h1, h2⟩ := h; exact ⟨vs, h1, AVRs.move h2 hx hv hw ho⟩
  | false => obtain ⟨x, h1, h2⟩ := h; exact ⟨x, h1, h2.move (hx x (by simp [h1])) hv hw ho⟩
theorem SVR.move {s : SV} {v : Value} (h : SVR g w s v) (hx : svU U s) (hv : ∀ k, U k → g'.val k = g.val k)
    (hw : ∀ b, b < w.heap.size → ¬ g.own b → w'.heap[b]? = w.heap[b]?) (ho : ∀ b, g'.own b → g.own b ∨ w.heap.size ≤ b) (hs : w.heap.size ≤ w'.heap.size) : SVR g' w' s v := by
  cases s with
  | any => exact h
  | und => exact h
  | p a cs => exact PVR.move h hx hv hw ho
  | tup xs =>
    obtain ⟨vs, h1, h2⟩ := h
    exact ⟨vs, h1, h2.mono fun x _ m r => r.move (hx x m) hv hw ho⟩
  | bp k off => obtain ⟨b, h1, h2⟩ := h; exact ⟨b, (hv k hx).trans h1, h2⟩
  | rp k m i off => obtain ⟨b, n, c, h1, h2⟩ := h; exact ⟨b, n, c, (hv k hx).trans h1, h2⟩
  | ep e off =>
    obtain ⟨b, lo, cs, L, h1, h2, h3, h4, h5⟩ := h
    have hlt := h3.lt
    refine ⟨b, lo, cs, L, h1, fun j u hu => ?_, h3.keep fun x m => hw x (hlt x m) (h4 x (by simp [m])), fun x m o => ?_, by omega⟩
    · rw [← h2 j u hu]; exact World.cell?_of_block (hw b h5 (h4 b (by simp)))
    · rcases ho x o with o | o
      · exact h4 x m o
      · rcases List.mem_cons.1 m with rfl | m
        · omega
        · have := hlt x m; omega
  | fn f => exact h
/-- a step of the world and of what stands behind the keys: the keys in T are turned, the others stay -/
theorem HI.step {W : Base} {ob ob' : Nat → Ob} (h : HI W g ob w) (T : Nat → Prop)
    (hbel : Bel W w') (hZ : g'.Z = g.Z)
    (hw : ∀ b, b < w.heap.size → (∀ k, T k → b ∉ g.O k) → w'.heap[b]? = w.heap[b]?)
    (hk : ∀ k, ¬ T k → ob' k = ob k ∧ g'.val k = g.val k ∧ g'.O k = g.O k ∧ g'.D k = g.D k)
    (hobU : ∀ k, obU U (ob k)) (hv : ∀ k, U k → g'.val k = g.val k)
    (ho : ∀ b, g'.own b → g.own b ∨ w.heap.size ≤ b)
    (hT : ∀ k, T k → ObR g' w' k (ob' k) ∧ (g'.O k ++ g'.D k).Nodup ∧ (∀ b ∈ g'.O k ++ g'.D k, (W.heap.size ≤ b ∨ W.x b) ∧ PlainAt w' (ob' k) b) ∧ ∀ j, k ≠ j → ∀ b ∈ g'.O k ++ g'.D k, b ∉ g'.O j ++ g'.D j) :
    HI W g' ob' w' := by
  have hw' : ∀ b, b < w.heap.size → ¬ g.own b → w'.heap[b]? = w.heap[b]? := fun b hb hn => hw b hb fun k _ m => hn (.inl ⟨k, m⟩)
  have hkeepF : ∀ k, ¬ T k → ∀ b ∈ g.O k ++ g.D k, w'.heap[b]? = w.heap[b]? := fun k hk b m =>
    hw b (h.lt k b m) fun j hj mj => h.apart j k (fun e => hk (e ▸ hj)) b (by simp [mj]) m
  refine ⟨hbel, fun k => ?_, fun k => ?_, fun k j hkj b m => ?_, fun k b m => ?_, hZ.trans h.gz, h.zx⟩
  · by_cases hTk : T k
    · exact (hT k hTk).1
    · obtain ⟨e1, e2, e3, e4⟩ := hk k hTk
      have hob := h.obs k
      have hF := hkeepF k hTk
      have hU := hobU k
      rw [e1]
      cases hok : ob k with
      | gone => rw [hok] at hob; exact ⟨e3.trans hob.1, e4.trans hob.2⟩
      | box t cs =>
        rw [hok] at hob hU
        obtain ⟨b, vs, h1, h2, h3, h4, h5⟩ := hob
        exact ⟨b, vs, e2.trans h1, e3.trans h2, e4.trans h3, by rw [hF b (by simp [h2])]; exact h4, AVRs.move h5 hU hv hw' ho⟩
      | map kk vk kv =>
        rw [hok] at hob
        obtain ⟨b, es, c, h1, h2, h3, h4, h5⟩ := hob
        exact ⟨b, es, c, e2.trans h1, e3.trans h2, e4.trans h3, by rw [hF b (by simp [h2])]; exact h4, h5⟩
      | row e m xs d =>
        rw [hok] at hob
        obtain ⟨hm, cs, L, h1, h2, h4⟩ := hob
        have hltL := h2.lt
        have hL : ∀ b ∈ L, w'.heap[b]? = w.heap[b]? := fun b mb => by
          rcases h4 with ⟨_, _, h4⟩ | ⟨_, _, _, h4⟩ | ⟨_, _, _, h4⟩
          · exact hF b (by simp [h4, mb])
          · exact hw' b (hltL b mb) (h4 b mb)
          · exact hw' b (hltL b mb) (h4 b (by simp [mb]))
        have hOb : ∀ b ∈ (g.val k).ownBlock.toList, w'.heap[b]? = w.heap[b]? := fun b mb => by
          rcases h4 with ⟨_, h3, _⟩ | ⟨_, h3, _⟩ | ⟨_, _, _, h4⟩
          · exact hF b (by simp [h3, mb])
          · exact hF b (by simp [h3, mb])
          · exact hw' b (own_lt h1 b mb) (h4 b (by simp [mb]))
        refine ⟨hm, cs, L, by rw [e2]; exact ownsRow_keep h1 hOb, h2.keep hL, ?_⟩
        rw [e2, e3, e4]
        have hno : ∀ b, b < w.heap.size → ¬ g.own b → ¬ g'.own b := fun b hb hn o => by
          rcases ho b o with o | o
          · exact hn o
          · omega
        rcases h4 with h4 | ⟨hd, h3, h4, h5⟩ | ⟨hd, h3, h4, h5⟩
        · exact .inl h4
        · exact .inr (.inl ⟨hd, h3, h4, fun b mb => hno b (hltL b mb) (h5 b mb)⟩)
        · refine .inr (.inr ⟨hd, h3, h4, fun b mb => ?_⟩)
          rcases List.mem_append.1 mb with m1 | m1
          · exact hno b (own_lt h1 b m1) (h5 b mb)
          · exact hno b (hltL b m1) (h5 b mb)
  · by_cases hTk : T k
    · exact (hT k hTk).2.1
    · obtain ⟨e1, e2, e3, e4⟩ := hk k hTk
      rw [e3, e4]; exact h.nodup k
  · by_cases hTk : T k
    · exact (hT k hTk).2.2.2 j hkj b m
    · by_cases hTj : T j
      · exact fun mj => (hT j hTj).2.2.2 k (fun e => hkj e.symm) b mj m
      · obtain ⟨_, _, e3, e4⟩ := hk k hTk
        obtain ⟨_, _, f3, f4⟩ := hk j hTj
        rw [e3, e4] at m
        rw [f3, f4]
        exact h.apart k j hkj b m
  · by_cases hTk : T k
    · exact (hT k hTk).2.2.1 b m
    · obtain ⟨_, _, e3, e4⟩ := hk k hTk
      rw [e3, e4] at m
      obtain ⟨p1, p2⟩ := h.plain k b m
      obtain ⟨e1, _⟩ := hk k hTk
      exact ⟨p1, by rw [e1]; exact p2.keep (hkeepF k hTk b m)⟩
end
/-- a state stands for a frame and a world -/
structure Inv (W : Base) (U : Nat → Prop) (st : St) (a : Act) (w : World) : Prop where
  ex : ∃ g, HI W g st.ob w ∧ ∀ t, SVR g w (st.sl t) (a.tmps.getD t undef)
  wf : StU U st
  defers : a.defers = []
  hand : ∀ v, W.hv = some v → a.tmps.getD 0 undef = v
end Go.Proofs.Ytfbonanbiblkbaa

namespace Go.Proofs.Ytfbonanbiblkbaa
open Go.RowKit
def constB : AV → Value → Bool
  | .c (.int k n), .int k' n' => k == k' && n == n'
  | .c (.bool b), .bool b' => b == b'
  | .c (.str s), .string s' => s.data.toList == s'.data.toList && strOk s
  | .nil _ m, .slice none 0 0 => Nat.blt 0 m
  | _, _ => false
def kindB : TypeDesc → AV → Bool
  | .int k, .c (.int k' _) => k == k'
  | .bool, .c (.bool _) => true
  | .string, .c (.str _) => true
  | _, _ => false
def aggD : TypeDesc → Bool
  | .struct _ => true
  | .array _ _ => true
  | _ => false
def kindP : PK → TypeDesc → Bool
  | .int k, .int k' => k == k'
  | .str, .string => true
  | .bool, .bool => true
  | _, _ => false
def EqF (P : Program) : List PK → List Field → Nat → Prop
  | [], [], _ => True
  | k :: ks, f :: fs, n => f.name ≠ "_" ∧ f.offset = n ∧ (∃ d, P.underlying f.type = some d ∧ kindP k d = true) ∧ EqF P ks fs (n + 1)
  | _, _, _ => False
def TOk (P : Program) (t : TypeId) : TI → Prop
  | .atom z => ∃ d zv i, P.underlying t = some d ∧ kindB d z = true ∧ P.info? t = some i ∧ i.zero = some zv ∧ i.size = 1 ∧ constB z zv = true
  | .strct fs n z => ∃ (fields : Array Field) (i : TypeInfo) (zvs : Array Value), P.underlying t = some (.struct fields) ∧ P.info? t = some i ∧ i.size = n ∧ i.zero = some (.agg zvs) ∧ All2 (fun a v => constB a v = true) z zvs.toList ∧
      All2 (fun (fi : FI) (f : Field) => f.offset = fi.off ∧ fi.size ≠ 0 ∧ ∃ j d, P.info? f.type = some j ∧ j.size = fi.size ∧ P.underlying f.type = some d ∧ aggD d = fi.agg) fs fields.toList
  | .slice e m bytes z => P.underlying t = some (.slice e) ∧ 0 < m ∧ bytes ≤ 131072 ∧ (∃ (i : TypeInfo) (zv : Value), P.info? e = some i ∧ i.size = m ∧ i.bytes = bytes ∧ i.zero = some zv ∧ All2 (fun a v => constB a v = true) z zv.cells.toList ∧ z.length = m) ∧
      ∃ j : TypeInfo, P.info? t = some j ∧ j.size = 1 ∧ j.zero = some (.slice none 0 0)
  | .ifc => ∃ ms, P.underlying t = some (.interface ms)
  | .map kk vk => ∃ kt et dk dv i zv, P.underlying t = some (.map kt et) ∧ P.underlying kt = some dk ∧ kindP kk dk = true ∧ P.underlying et = some dv ∧ kindP vk dv = true ∧ P.info? et = some i ∧ i.zero = some zv ∧ constB (zeroPK vk) zv = true
  | .eqs ks => ∃ u, t = u + 4000 ∧ P.underlying u = some (.struct (P.fieldsOf u)) ∧ P.stoodInHeld u = false ∧ P.eqGuardType P.depth u = false ∧ EqF P ks (P.fieldsOf u).toList 0
section
variable {P : Program} {w : World} {t : TypeId}
theorem run_info {i : TypeInfo} (h : P.info? t = some i) : (typeInfo t).run P w = .ok i w := by simp [typeInfo, program, Sem.run, h]
theorem run_und {d : TypeDesc} (h : P.underlying t = some d) : (underlying t).run P w = .ok d w := by simp [underlying, program, Sem.run, h]
theorem run_size {i : TypeInfo} (h : P.info? t = some i) : (sizeOf t).run P w = .ok i.size w := by simp [sizeOf, run_info h]
theorem run_zero {i : TypeInfo} {z : Value} (h : P.info? t = some i) (hz : i.zero = some z) : (zeroValue t).run P w = .ok z w := by simp [zeroValue, run_info h, hz]
theorem run_agg {d : TypeDesc} (h : P.underlying t = some d) : (isAgg t).run P w = .ok (aggD d) w := by
  simp only [isAgg, Sem.run_bind, run_und h, Result.andThen_ok]
  cases d <;> rfl
theorem kind_agg {d : TypeDesc} {z : AV} (h : kindB d z = true) : aggD d = false := by
  unfold kindB at h
  split at h <;> first | rfl | simp at h
end
section
variable {g : Gh} {w : World}
theorem strOk_le {s : ByteArray} (h : strOk s = true) : s.size ≤ 9223372036854775807 := by
  unfold strOk at h
  have := Nat.le_of_ble_eq_true h
  rw [Array.length_toList] at this
  exact this
theorem const_AVR {x : AV} {v : Value} (h : constB x v = true) : AVR g w x v := by
  unfold constB at h
  split at h
  · simp only [Bool.and_eq_true, beq_iff_eq] at h
    exact ⟨[], ⟨by rw [h.1, h.2], rfl⟩, by simp⟩
  · simp only [beq_iff_eq] at h
    exact ⟨[], ⟨by rw [h], rfl⟩, by simp⟩
  · rename_i s s'
    simp only [Bool.and_eq_true, beq_iff_eq] at h
    have e : s = s' := by
      cases s; cases s'
      simpa using h.1
    exact ⟨[], ⟨by rw [e], rfl, strOk_le h.2⟩, by simp⟩
  · rfl
  · simp at h
theorem AVR.one {x : AV} {v : Value} (h : AVR g w x v) : v.oneCell' = true := by
  cases x with
  | c x => obtain ⟨L, h1, _⟩ := h; exact h1.one
  | row k => exact h.2
  | nil e m => simp [AVR] at h; simp [h, Value.oneCell']
  | dead => exact h
theorem cells_one {v : Value} (h : v.oneCell' = true) : v.cells = #[v] := by
  cases v <;> simp [Value.oneCell'] at h <;> rfl
theorem PVR.cells {a : Bool} {cs : List AV} {v : Value} (h : PVR g w a cs v) : ∃ vs : List Value, v.cells = vs.toArray ∧ All2 (AVR g w) cs vs := by
  cases a with
  | true => obtain ⟨vs, rfl, h2⟩ := h; exact ⟨vs, rfl, h2⟩
  | false => obtain ⟨x, rfl, h2⟩ := h; exact ⟨[v], by rw [cells_one h2.one], ⟨h2, trivial⟩⟩
theorem AVRs.one {cs : List AV} {vs : List Value} (h : All2 (AVR g w) cs vs) : ∀ u ∈ vs, u.oneCell' = true := by
  induction vs generalizing cs with
  | nil => simp
  | cons v r ih =>
    cases cs with
    | nil => exact h.elim
    | cons c cs =>
      intro u m
      rcases List.mem_cons.1 m with rfl | m
      · exact h.1.one
      · exact ih h.2 u m
end
theorem ba_list (x y : ByteArray) : (x.toList == y.toList) = decide (x = y) := by
  rw [Bool.eq_iff_iff]
  simp only [beq_iff_eq, decide_eq_true_eq]
  constructor
  · intro h
    have h' : x.data.toList = y.data.toList := by rw [← ByteArray.toList_eq, ← ByteArray.toList_eq]; exact h
    cases x; cases y
    simpa using h'
  · rintro rfl; rfl
end Go.Proofs.Ytfbonanbiblkbaa

namespace Go.Proofs.Ytfbonanbiblkbaa
open Go.RowKit
def Uk (U : Nat → Prop) (key : Nat) : Nat → Prop := fun k => U k ∨ (key ≤ k ∧ k < key + 16)
theorem avU.mono {U U' : Nat → Prop} (h : ∀ k, U k → U' k) {x : AV} (hx : avU U x) : avU U' x := by cases x <;> first | exact h _ hx | trivial
theorem avsU.mono {U U' : Nat → Prop} (h : ∀ k, U k → U' k) {x : List AV} (hx : avsU U x) : avsU U' x := fun y m => (hx y m).mono h
theorem svU.mono {U U' : Nat → Prop} (h : ∀ k, U k → U' k) {x : SV} (hx : svU U x) : svU U' x := by
  cases x <;> first | exact avsU.mono h hx | exact fun y m => avsU.mono h (hx y m) | exact h _ hx | trivial
theorem obU.mono {U U' : Nat → Prop} (h : ∀ k, U k → U' k) {x : Ob} (hx : obU U x) : obU U' x := by
  cases x <;> first | exact avsU.mono h hx | trivial
def Fin (P : Program) (W : Base) (U : Nat → Prop) (key : Nat) (st : St) (g : Gh) (w : World) (s : Sem Next) (r : SV × List (Nat × Ob)) : Prop :=
  ∃ g' cv w', (s.run P w = .ok (.value cv) w' ∨ (s.run P w = .ok .skip w' ∧ cv = undef)) ∧ HI W g' (updAll st.ob r.2) w' ∧ SVR g' w' r.1 cv ∧ (∀ x v, svU U x → SVR g w x v → SVR g' w' x v) ∧
    svU (Uk U key) r.1 ∧ (∀ k, obU (Uk U key) (updAll st.ob r.2 k)) ∧ ∀ k, ¬ Uk U key k → updAll st.ob r.2 k = .gone
section
variable {P : Program} {W : Base} {U : Nat → Prop} {key : Nat} {st : St} {g : Gh} {w : World} {a : Act} {tt : Nat → Option TI}
theorem fin_pure {s : Sem Next} {v : SV} {cv : Value} (hI : HI W g st.ob w) (hU : StU U st) (hrun : s.run P w = .ok (.value cv) w) (hv : SVR g w v cv) (hu : svU U v) : Fin P W U key st g w s (v, []) :=
  ⟨g, cv, w, .inl hrun, hI, hv, fun _ _ _ h => h, hu.mono fun _ => .inl, fun k => (hU.ob k).mono fun _ => .inl, fun k hk => hU.gone k fun h => hk (.inl h)⟩
theorem avU_c (x : CT) : avU U (.c x) := trivial
theorem svU_c (x : CT) : svU U (.p false [.c x]) := fun y m => by simp at m; subst m; trivial
theorem SVR_int (k : IntKind) (n : Int) : SVR g w (.p false [.c (.int k n)]) (.int k n) := ⟨_, rfl, [], ⟨rfl, rfl⟩, by simp⟩
theorem SVR_bool (b : Bool) : SVR g w (.p false [.c (.bool b)]) (.bool b) := ⟨_, rfl, [], ⟨rfl, rfl⟩, by simp⟩
theorem SVR_str {s : ByteArray} (h : s.size ≤ 9223372036854775807) : SVR g w (.p false [.c (.str s)]) (.string s) := ⟨_, rfl, [], ⟨rfl, rfl, h⟩, by simp⟩
theorem int_of {k : IntKind} {n : Int} {v : Value} (h : SVR g w (.p false [.c (.int k n)]) v) : v = .int k n := by
  obtain ⟨x, hx, h⟩ := h; simp at hx; subst hx; obtain ⟨L, h1, _⟩ := h; exact h1.1
theorem bool_of {b : Bool} {v : Value} (h : SVR g w (.p false [.c (.bool b)]) v) : v = .bool b := by
  obtain ⟨x, hx, h⟩ := h; simp at hx; subst hx; obtain ⟨L, h1, _⟩ := h; exact h1.1
theorem str_of {s : ByteArray} {v : Value} (h : SVR g w (.p false [.c (.str s)]) v) : v = .string s ∧ s.size ≤ 9223372036854775807 := by
  obtain ⟨x, hx, h⟩ := h; simp at hx; subst hx; obtain ⟨L, h1, _⟩ := h; exact ⟨h1.1, h1.2.2⟩
theorem cv_ok {t : Nat} (htt : ∀ t i, tt t = some i → TOk P t i) (v : Value) : SVR g w (cvT (tt t) v) v ∧ svU U (cvT (tt t) v) := by
  unfold cvT
  split
  · exact ⟨SVR_int _ _, svU_c _⟩
  · exact ⟨SVR_bool _, svU_c _⟩
  · split
    · rename_i h; exact ⟨SVR_str (strOk_le h), svU_c _⟩
    · exact ⟨trivial, trivial⟩
  · split
    · exact ⟨⟨_, rfl, rfl⟩, fun y m => by simp at m; subst m; trivial⟩
    · exact ⟨trivial, trivial⟩
  · exact ⟨trivial, trivial⟩
theorem ev_ok (htt : ∀ t i, tt t = some i → TOk P t i) (hS : ∀ t, SVR g w (st.sl t) (a.tmps.getD t undef)) (hU : StU U st) (t : Nat) (x : Operand) :
    SVR g w (st.ev tt t x) (a.eval x) ∧ svU U (st.ev tt t x) := by
  cases x with
  | tmp s => exact ⟨hS s, hU.sl s⟩
  | const v => exact cv_ok htt v
  | global _ => exact ⟨trivial, trivial⟩
  | func f => exact ⟨rfl, trivial⟩
set_option maxHeartbeats 1000000 in
theorem bin_int {op : BinOp} {t : Nat} {ox oy : Operand} {k k' : IntKind} {n n' : Int} {z : CT} (hk : k = k' ∨ op = .shl ∨ op = .shr) (hz : intV op k n n' = some z) :
    ∃ cv, (do eqGuard op t ox oy (.int k n) (.int k' n'); binOp op t (.int k n) (.int k' n') : Sem Value).run P w = .ok cv w ∧ SVR g w (.p false [.c z]) cv := by
  have hg : (eqGuard op t ox oy (.int k n) (.int k' n')).run P w = .ok () w := by
    cases op <;> rfl
  simp only [Sem.run_bind, hg, Result.andThen_ok]
  cases op <;> simp only [intV, bitV, andI, orI, xorI, andNotI, shlI, shrI, Option.map_none, Option.map_some, Option.some.injEq, reduceCtorEq] at hz <;> (try subst hz) <;>
    (try (split at hz <;> simp only [Option.some.injEq, reduceCtorEq] at hz; subst hz)) <;>
    simp only [reduceCtorEq, or_false, or_true] at hk <;> (try subst hk) <;>
    first
      | (refine ⟨_, ?_, SVR_int _ _⟩; simp [binOp, Op.intArith, Op.intDiv, Op.intBits, Op.shift, *]; done)
      | (refine ⟨_, ?_, SVR_bool _⟩; simp [binOp, Op.intCmp]; done)
set_option maxHeartbeats 1000000 in
theorem bin_str {op : BinOp} {t : Nat} {ox oy : Operand} {s s' : ByteArray} {z : CT} (hz : strV op s s' = some z) :
    ∃ cv, (do eqGuard op t ox oy (.string s) (.string s'); binOp op t (.string s) (.string s') : Sem Value).run P w = .ok cv w ∧ SVR g w (.p false [.c z]) cv := by
  have hg : (eqGuard op t ox oy (.string s) (.string s')).run P w = .ok () w := by
    cases op <;> rfl
  simp only [Sem.run_bind, hg, Result.andThen_ok]
  cases op <;> simp only [strV, Option.some.injEq, reduceCtorEq] at hz <;> (try subst hz) <;>
    first
      | (refine ⟨_, ?_, SVR_bool _⟩; simp only [binOp, Op.stringOp, sLt, sEq, ← ba_list]; rfl)
      | (split at hz
         · rename_i hl
           simp only [Option.some.injEq] at hz
           subst hz
           refine ⟨_, ?_, SVR_str (by rw [ByteArray.size_append]; exact hl)⟩
           have hl' : ¬ ((s.size + s'.size : Nat) : Int) > IntKind.i64.max := by
             have : IntKind.i64.max = 9223372036854775807 := by decide
             omega
           simp only [binOp, Op.stringOp, hl', if_false]
           rfl
         · simp at hz)
theorem bin_bool {op : BinOp} {t : Nat} {ox oy : Operand} {b b' : Bool} {r : Bool} (ht : P.underlying t = some .bool) (hop : (op = .eql ∧ r = (b == b')) ∨ (op = .neq ∧ r = !(b == b'))) :
    (do eqGuard op t ox oy (.bool b) (.bool b'); binOp op t (.bool b) (.bool b') : Sem Value).run P w = .ok (.bool r) w := by
  have hg : (eqGuard op t ox oy (.bool b) (.bool b')).run P w = .ok () w := by
    cases op <;> rfl
  have he : (Op.equal t (.bool b) (.bool b')).run P w = .ok (b == b') w := by
    have key : ∀ d : Nat, (Op.equalIn (d + 1) t (.bool b) (.bool b')).run P w = .ok (b == b') w := fun d => by
      rw [Op.equalIn]
      simp only [Sem.run_bind, run_und ht, Result.andThen_ok, Sem.run_pure]
    exact key 9999
  simp only [Sem.run_bind, hg, Result.andThen_ok]
  rcases hop with ⟨rfl, rfl⟩ | ⟨rfl, rfl⟩
  · simp only [binOp, Sem.run_bind, he, Result.andThen_ok, Sem.run_pure]
  · simp only [binOp, Sem.run_bind, he, Result.andThen_ok, Sem.run_pure]
theorem bin_ok (htt : ∀ t i, tt t = some i → TOk P t i) {op : BinOp} {t : Nat} {ox oy : Operand} {x y v : SV} {vx vy : Value} (h : binV (tt t) op x y = some v) (hx : SVR g w x vx) (hy : SVR g w y vy) :
    ∃ cv, (do eqGuard op t ox oy vx vy; binOp op t vx vy : Sem Value).run P w = .ok cv w ∧ SVR g w v cv ∧ svU U v := by
  unfold binV at h
  split at h
  · have ex := int_of hx
    have ey := int_of hy
    subst ex ey
    split at h
    · rename_i hk
      obtain ⟨z, hz, rfl⟩ := Option.map_eq_some_iff.1 h
      obtain ⟨cv, h1, h2⟩ := bin_int (P := P) (g := g) (w := w) (t := t) (ox := ox) (oy := oy) hk hz
      exact ⟨cv, h1, h2, svU_c _⟩
    · simp at h
  · obtain ⟨ex, lx⟩ := str_of hx
    obtain ⟨ey, ly⟩ := str_of hy
    subst ex ey
    obtain ⟨z, hz, rfl⟩ := Option.map_eq_some_iff.1 h
    obtain ⟨cv, h1, h2⟩ := bin_str (P := P) (g := g) (w := w) (t := t) (ox := ox) (oy := oy) hz
    exact ⟨cv, h1, h2, svU_c _⟩
  · have ex := bool_of hx
    have ey := bool_of hy
    subst ex ey
    split at h
    · rename_i hti
      simp only [Option.some.injEq] at h
      subst h
      obtain ⟨d, zv, i, h1, h2, _⟩ := htt t _ hti
      have hd : d = .bool := by cases d <;> simp [kindB] at h2; rfl
      subst hd
      exact ⟨_, bin_bool h1 (.inl ⟨rfl, rfl⟩), SVR_bool _, svU_c _⟩
    · rename_i hti
      simp only [Option.some.injEq] at h
      subst h
      obtain ⟨d, zv, i, h1, h2, _⟩ := htt t _ hti
      have hd : d = .bool := by cases d <;> simp [kindB] at h2; rfl
      subst hd
      exact ⟨_, bin_bool h1 (.inr ⟨rfl, rfl⟩), SVR_bool _, svU_c _⟩
    · simp at h
  · simp at h
theorem kindP_agg {k : PK} {d : TypeDesc} (h : kindP k d = true) : aggD d = false := by
  unfold kindP at h
  split at h <;> first | rfl | simp at h
theorem eqC_ok {k : PK} {x y : AV} {vx vy : Value} {b : Bool} {t : Nat} {d : TypeDesc} (h : eqC k x y = some b) (hd : P.underlying t = some d) (hk : kindP k d = true) (hx : AVR g w x vx) (hy : AVR g w y vy) (n : Nat) : (Op.equalIn (n + 1) t vx vy).run P w = .ok b w := by
  unfold eqC at h
  split at h
  · split at h <;> simp only [Option.some.injEq, reduceCtorEq] at h
    rename_i kk; subst kk h
    obtain ⟨_, h1, _⟩ := hx; obtain ⟨_, h2, _⟩ := hy
    have e1 := h1.1; have e2 := h2.1; subst e1 e2
    cases d <;> simp [kindP] at hk
    exact run_equalIn_int w n t _ _ _ _ hd
  · simp only [Option.some.injEq] at h; subst h
    obtain ⟨_, h1, _⟩ := hx; obtain ⟨_, h2, _⟩ := hy
    have e1 := h1.1; have e2 := h2.1; subst e1 e2
    cases d <;> simp [kindP] at hk
    rw [run_equalIn_string w n t _ _ hd, sEq, ba_list]
  · simp only [Option.some.injEq] at h; subst h
    obtain ⟨_, h1, _⟩ := hx; obtain ⟨_, h2, _⟩ := hy
    have e1 := h1.1; have e2 := h2.1; subst e1 e2
    cases d <;> simp [kindP] at hk
    exact run_equalIn_bool' w n t _ _ hd
  · simp at h
theorem eqCs_ok (n : Nat) {X Y : Array Value} : ∀ {ks : List PK} {fs : List Field} {o : Nat} {xs ys : List AV} {vx vy : List Value} {b : Bool}, eqCs ks xs ys = some b → EqF P ks fs o → All2 (AVR g w) xs vx → All2 (AVR g w) ys vy → (∀ j v, vx[j]? = some v → X[o + j]? = some v) → (∀ j v, vy[j]? = some v → Y[o + j]? = some v) → (Op.eqFields (n + 1) X Y fs).run P w = .ok b w
  | [], [], _, [], [], _, _, b, h, _, _, _, _, _ => by simp [eqCs] at h; subst h; simp [Op.eqFields]
  | k :: ks, f :: fs, o, x :: xs, y :: ys, [], _, _, _, _, hx, _, _, _ => hx.elim
  | k :: ks, f :: fs, o, x :: xs, y :: ys, _ :: _, [], _, _, _, _, hy, _, _ => hy.elim
  | k :: ks, f :: fs, o, x :: xs, y :: ys, u :: vx, v :: vy, b, h, hf, hx, hy, hX, hY => by
    simp only [eqCs] at h
    obtain ⟨b1, h1, h⟩ := Option.bind_eq_some_iff.1 h
    obtain ⟨b2, h2, rfl⟩ := Option.map_eq_some_iff.1 h
    obtain ⟨f1, f2, ⟨d, f3, f4⟩, f5⟩ := hf
    have e1 := eqC_ok h1 f3 f4 hx.1 hy.1 n
    have e2 := eqCs_ok n h2 f5 hx.2 hy.2 (fun j v hj => by have := hX (j + 1) v (by simpa using hj); rwa [show o + (j + 1) = o + 1 + j by omega] at this) (fun j v hj => by have := hY (j + 1) v (by simpa using hj); rwa [show o + (j + 1) = o + 1 + j by omega] at this)
    have p1 : (part f.type X f.offset).run P w = .ok u w := by
      have := hX 0 u (by simp)
      simp only [part, Sem.run_bind, run_agg f3, kindP_agg f4, Result.andThen_ok]
      rw [f2]; simp at this; simp [this]
    have p2 : (part f.type Y f.offset).run P w = .ok v w := by
      have := hY 0 v (by simp)
      simp only [part, Sem.run_bind, run_agg f3, kindP_agg f4, Result.andThen_ok]
      rw [f2]; simp at this; simp [this]
    simp only [Op.eqFields, f1, ne_eq, not_false_eq_true, if_true, Sem.run_bind, p1, p2, e1, Result.andThen_ok]
    cases b1
    · simp
    · simpa using e2
  | [], _ :: _, _, _, _, _, _, _, _, hf, _, _, _, _ => hf.elim
  | _ :: _, [], _, _, _, _, _, _, _, hf, _, _, _, _ => hf.elim
  | [], [], _, _ :: _, _, _, _, _, h, _, _, _, _, _ => by simp [eqCs] at h
  | [], [], _, [], _ :: _, _, _, _, h, _, _, _, _, _ => by simp [eqCs] at h
  | _ :: _, _ :: _, _, [], _, _, _, _, h, _, _, _, _, _ => by simp [eqCs] at h
  | _ :: _, _ :: _, _, _ :: _, [], _, _, _, h, _, _, _, _, _ => by simp [eqCs] at h
theorem eqRes_ok {op : BinOp} {b : Bool} {v : SV} (h : eqRes op b = some v) : (op = .eql ∧ v = .p false [.c (.bool b)]) ∨ (op = .neq ∧ v = .p false [.c (.bool (!b))]) := by
  unfold eqRes at h
  split at h <;> simp only [Option.some.injEq, reduceCtorEq] at h <;> subst h
  · exact .inl ⟨rfl, rfl⟩
  · exact .inr ⟨rfl, rfl⟩
theorem agg_ok (htt : ∀ t i, tt t = some i → TOk P t i) {op : BinOp} {t : Nat} {ox oy : Operand} {x y v : SV} {vx vy : Value} (h : aggV (tt (t + 4000)) op x y = some v) (hx : SVR g w x vx) (hy : SVR g w y vy) :
    ∃ cv, (do eqGuard op t ox oy vx vy; binOp op t vx vy : Sem Value).run P w = .ok cv w ∧ SVR g w v cv ∧ svU U v := by
  unfold aggV at h
  split at h
  · obtain ⟨ks, hks, h'⟩ := Option.bind_eq_some_iff.1 h
    obtain ⟨b, hb, h''⟩ := Option.bind_eq_some_iff.1 h'
    have hti : tt (t + 4000) = some (.eqs ks) := by
      unfold eqsTI at hks
      split at hks <;> simp only [Option.some.injEq, reduceCtorEq] at hks
      rename_i hti
      rw [hti, hks]
    obtain ⟨u, e, h1, h2, h3, h4⟩ := htt _ _ hti
    have e : t = u := Nat.add_right_cancel e
    subst e
    obtain ⟨us, rfl, hus⟩ := hx
    obtain ⟨vs, rfl, hvs⟩ := hy
    have hq := eqCs_ok (X := us.toArray) (Y := vs.toArray) 9998 hb h4 hus hvs (fun j v hj => by simpa using hj) (fun j v hj => by simpa using hj)
    have hg := run_eqGuard_agg (P := P) w op t ox oy us.toArray vs.toArray h3
    rcases eqRes_ok h'' with ⟨rfl, rfl⟩ | ⟨rfl, rfl⟩
    · refine ⟨_, ?_, SVR_bool b, svU_c _⟩
      simp only [Sem.run_bind, hg, Result.andThen_ok, run_eql_struct, run_equalIn_struct w 9999 t _ _ h1 h2, hq]
    · refine ⟨_, ?_, SVR_bool (!b), svU_c _⟩
      simp only [Sem.run_bind, hg, Result.andThen_ok, run_neq_struct, run_equalIn_struct w 9999 t _ _ h1 h2, hq]
  · simp at h
theorem ifc_of {b : Bool} {v : Value} (h : SVR g w (.p false [.c (.ifc b)]) v) : (b = true ∧ v = .nilIface) ∨ (b = false ∧ ∃ t x, v = .iface t x) := by
  obtain ⟨x, hx, h⟩ := h; simp at hx; subst hx; obtain ⟨L, h1, _⟩ := h
  have h2 := h1.2.2
  cases b with
  | true => exact .inl ⟨rfl, h2⟩
  | false => exact .inr ⟨rfl, h2⟩
theorem bino_ok (htt : ∀ t i, tt t = some i → TOk P t i) {op : BinOp} {t : Nat} {ox oy : Operand} {x y v : SV} {vx : Value} (h : binO tt t (isNilC oy) op x y = some v) (hx : SVR g w x vx) (hy : SVR g w y (a.eval oy)) :
    ∃ cv, (do eqGuard op t ox oy vx (a.eval oy); binOp op t vx (a.eval oy) : Sem Value).run P w = .ok cv w ∧ SVR g w v cv ∧ svU U v := by
  unfold binO at h
  split at h
  · rename_i hn
    have ho : oy = .const .nilIface := by
      cases oy with
      | const c => cases c <;> first | rfl | (simp [isNilC, isNilV] at hn; done)
      | _ => simp [isNilC] at hn
    subst ho
    split at h
    rotate_left
    · simp at h
    rename_i hif
    have hti : tt t = some .ifc := by
      unfold isIfc at hif
      split at hif
      · assumption
      · simp at hif
    obtain ⟨ms, hms⟩ := htt _ _ hti
    unfold nilV at h
    split at h
    · rename_i b
      have hb := ifc_of hx
      have hev : a.eval (.const .nilIface) = .nilIface := rfl
      rw [hev]
      have hg : ∀ v : Value, (v = .nilIface ∨ ∃ t x, v = .iface t x) → (eqGuard op t ox (.const .nilIface) v .nilIface).run P w = .ok () w := fun v hv => by
        rcases hv with rfl | ⟨t', x', rfl⟩
        · simp only [eqGuard]
          cases ox <;> cases op <;> rfl
        · simp only [eqGuard]
          cases op <;> rfl
      have he : (Op.equal t vx .nilIface).run P w = .ok b w := by
        show (Op.equalIn (9999 + 1) t _ _).run P w = _
        rw [Op.equalIn]
        rcases hb with ⟨rfl, rfl⟩ | ⟨rfl, t', x', rfl⟩
        · simp only [Sem.run_bind, run_und hms, Result.andThen_ok, Sem.run_pure]
        · simp only [Sem.run_bind, run_und hms, Result.andThen_ok, Sem.run_pure]
      have hg' := hg vx (hb.imp (fun h => h.2) (fun h => h.2))
      rcases eqRes_ok h with ⟨rfl, rfl⟩ | ⟨rfl, rfl⟩
      · refine ⟨_, ?_, SVR_bool b, svU_c _⟩
        simp only [Sem.run_bind, hg', Result.andThen_ok]
        rcases hb with ⟨rfl, rfl⟩ | ⟨rfl, t', x', rfl⟩ <;> simp only [binOp, Sem.run_bind, he, Result.andThen_ok, Sem.run_pure]
      · refine ⟨_, ?_, SVR_bool (!b), svU_c _⟩
        simp only [Sem.run_bind, hg', Result.andThen_ok]
        rcases hb with ⟨rfl, rfl⟩ | ⟨rfl, t', x', rfl⟩ <;> simp only [binOp, Sem.run_bind, he, Result.andThen_ok, Sem.run_pure]
    · simp at h
  · split at h
    · exact agg_ok htt h hx hy
    · exact bin_ok htt h hx hy
theorem un_ok {op : UnOp} {x v : SV} {vx : Value} (h : unV op x = some v) (hx : SVR g w x vx) : ∃ cv, (Op.unary op vx).run P w = .ok cv w ∧ SVR g w v cv ∧ svU U v := by
  unfold unV at h
  split at h
  · have ex := bool_of hx
    subst ex
    split at h <;> simp at h
    subst h
    exact ⟨_, by simp [Op.unary], SVR_bool _, svU_c _⟩
  · have ex := int_of hx
    subst ex
    split at h <;> simp at h
    subst h
    exact ⟨_, by simp [Op.unary, Op.intArith], SVR_int _ _, svU_c _⟩
  · simp at h
end
end Go.Proofs.Ytfbonanbiblkbaa

namespace Go.Proofs.Ytfbonanbiblkbaa
open Go.RowKit
section
variable {P : Program} {W : Base} {U : Nat → Prop} {key : Nat} {st : St} {g : Gh} {w : World} {a : Act} {tt : Nat → Option TI}
theorem tt_und {t : Nat} {z : AV} (htt : ∀ t i, tt t = some i → TOk P t i) (h : tt t = some (.atom z)) : ∃ d, P.underlying t = some d := by
  obtain ⟨d, _, _, h, _⟩ := htt t _ h; exact ⟨d, h⟩
theorem isSlice_und {t : Nat} (htt : ∀ t i, tt t = some i → TOk P t i) (h : isSlice (tt t) = true) : ∃ e, P.underlying t = some (.slice e) := by
  unfold isSlice at h
  split at h
  · rename_i h1; exact ⟨_, (htt t _ h1).1⟩
  · simp at h
theorem isStr_und {t : Nat} (htt : ∀ t i, tt t = some i → TOk P t i) (h : isStr (tt t) = true) : P.underlying t = some .string := by
  unfold isStr at h
  split at h
  · rename_i h1
    obtain ⟨d, zv, i, h2, h3, _⟩ := htt t _ h1
    have hd : d = .string := by cases d <;> simp [kindB] at h3; rfl
    rw [hd] at h2; exact h2
  · simp at h
theorem conv_ok (htt : ∀ t i, tt t = some i → TOk P t i) {s t : Nat} {x v : SV} {vx : Value} (h : convV (tt s) (tt t) x = some v) (hx : SVR g w x vx) : ∃ cv, (convert s t vx).run P w = .ok cv w ∧ SVR g w v cv ∧ svU U v := by
  unfold convV at h
  split at h
  · have ex := int_of hx
    subst ex
    split at h
    · rename_i h1 h2
      simp only [Option.some.injEq] at h
      subst h
      obtain ⟨d, zv, i, h3, h4, _⟩ := htt t _ h2
      have hd : ∃ k, d = .int k := by cases d <;> simp [kindB] at h4; exact ⟨_, rfl⟩
      obtain ⟨k, rfl⟩ := hd
      simp only [kindB, beq_iff_eq] at h4
      subst h4
      obtain ⟨ds, hs⟩ := tt_und htt h1
      refine ⟨_, ?_, SVR_int _ _, svU_c _⟩
      simp [convert, run_und hs, run_und h3, Conv.intToInt]
    · simp at h
  · simp at h
theorem slice_of {e m : Nat} {xs : List (List CT)} {v : Value} (h : SVR g w (.p false [.c (.sl e m xs)]) v) : ∃ A cap cs L0 L1, v = .slice A xs.length cap ∧ xs.length ≤ cap ∧ cap ≤ maxLen ∧ 0 < m ∧ Sl w m A xs.length cs L0 ∧ REs w m xs cs L1 ∧ (∀ b ∈ L0 ++ L1, ¬ g.own b) := by
  obtain ⟨x, hx, h⟩ := h
  simp at hx
  subst hx
  obtain ⟨L, ⟨A, cap, cs, L0, L1, h1, h2, h3, h4, h5, h6, h7⟩, ho⟩ := h
  exact ⟨A, cap, cs, L0, L1, h1, h2, h3, h5, h6, h7, fun b m => ho b (h4 ▸ m)⟩
theorem row_of {k : Nat} {v : Value} (h : SVR g w (.p false [.row k]) v) : v = g.val k := by
  obtain ⟨x, hx, h⟩ := h; simp at hx; subst hx; exact h.1
theorem nil_of {e m : Nat} {v : Value} (h : SVR g w (.p false [.nil e m]) v) : v = .slice none 0 0 := by
  obtain ⟨x, hx, h⟩ := h; simp at hx; subst hx; exact h
theorem own_val {B e m n : Nat} {v : Value} {cs : List Value} (h : w.ownsRow B e m v n cs) : ∃ A cap, v = .slice A n cap := by
  obtain ⟨A, c, hv, _⟩ := own_slice h
  exact ⟨A, c, hv⟩
theorem len_ok (htt : ∀ t i, tt t = some i → TOk P t i) (hI : HI W g st.ob w) {t : Nat} {ts : Array TypeId} {ty : TypeId} (hts : ts[0]? = some t) {x v : SV} {vx : Value} (h : lenV st (tt t) x = some v) (hx : SVR g w x vx) :
    ∃ cv, (Builtin.len_ ts ty #[vx]).run P w = .ok cv w ∧ SVR g w v cv ∧ svU U v := by
  have fin : ∀ (A : Option Addr) (n c : Nat), isSlice (tt t) = true → (Builtin.len_ ts ty #[.slice A n c]).run P w = .ok (.int .i64 n) w := fun A n c hs => by
    obtain ⟨e, he⟩ := isSlice_und htt hs
    simp [Builtin.len_, hts, run_und he, goInt]
  unfold lenV at h
  split at h
  · split at h <;> simp at h
    rename_i hs
    subst h
    obtain ⟨A, cap, _, _, _, rfl, _⟩ := slice_of hx
    exact ⟨_, fin _ _ _ hs, SVR_int _ _, svU_c _⟩
  · split at h <;> simp at h
    rename_i hs
    subst h
    obtain ⟨rfl, _⟩ := str_of hx
    refine ⟨_, ?_, SVR_int _ _, svU_c _⟩
    simp [Builtin.len_, hts, run_und (isStr_und htt hs), goInt]
  · split at h <;> simp at h
    rename_i hs
    subst h
    have := nil_of hx
    subst this
    exact ⟨_, fin _ _ _ hs, SVR_int _ _, svU_c _⟩
  · split at h
    · rename_i k _ e m xs d hk
      split at h <;> simp at h
      rename_i hs
      subst h
      have hv := row_of hx
      subst hv
      have ho := hI.obs k
      rw [hk] at ho
      obtain ⟨_, cs, L, h1, _⟩ := ho
      obtain ⟨A, cap, hv⟩ := own_val h1
      rw [hv]
      exact ⟨_, fin _ _ _ hs, SVR_int _ _, svU_c _⟩
    · simp at h
  · simp at h
theorem fold_bytes {f : Value → ByteArray → Sem (ForInStep ByteArray)} (hf : ∀ n s, f (.int .u8 n) s = pure (ForInStep.yield (s.push (UInt8.ofNat n.toNat)))) : ∀ (l : List Int) (s : ByteArray), (forIn (l.map fun n => Value.int .u8 n) s f).run P w = .ok ⟨s.data ++ (l.map fun n => UInt8.ofNat n.toNat).toArray⟩ w
  | [], s => by simp
  | n :: l, s => by
    have ih := fold_bytes hf l (s.push (UInt8.ofNat n.toNat))
    simp only [List.map_cons, List.forIn_cons, hf, Sem.run_bind, Sem.run_pure, Result.andThen_ok, ih]
    congr 2
    apply Array.ext'
    simp [ByteArray.push]
theorem run_bytes {b o cap : Nat} (l : List Int) (hc : ∀ j u, (l.map fun n => Value.int .u8 n)[j]? = some u → w.cell? ⟨b, o + j, none⟩ = some u) : (Conv.bytesToString (.slice (some ⟨b, o, none⟩) l.length cap)).run P w = .ok (.string (bytesS l)) w := by
  have h1 := run_loadCells_list (P := P) w ⟨b, o, none⟩ (l.map fun n => Value.int .u8 n) (fun j u hj => by rw [add_lit0]; exact hc j u hj)
  rw [List.length_map] at h1
  unfold Conv.bytesToString
  simp only [Sem.run_bind, h1, Result.andThen_ok, ← Array.forIn_toList]
  rw [fold_bytes (fun _ _ => rfl)]
  simp [bytesS, ByteArray.empty, ByteArray.emptyWithCapacity]
  rfl
theorem ints_cells {m : Nat} : ∀ {xs : List (List CT)} {l : List Int} {cs : List Value} {L : List Nat}, intsOf xs = some l → REs w m xs cs L → cs = l.map (fun n => Value.int .u8 n) ∧ xs.length = l.length
  | [], _, _, _, h, ⟨h1, _⟩ => by simp [intsOf] at h; subst h h1; simp
  | x :: r, l, _, _, h, ⟨c1, c2, L1, L2, rfl, rfl, h3, h4⟩ => by
    unfold intsOf at h
    split at h
    · rename_i he; simp at he
    · rename_i n r' he
      simp only [List.cons.injEq] at he
      obtain ⟨rfl, rfl⟩ := he
      obtain ⟨l', hl, rfl⟩ := Option.map_eq_some_iff.1 h
      obtain ⟨i1, i2⟩ := ints_cells hl h4
      obtain ⟨v, cs', _, _, rfl, rfl, a1, a2⟩ := h3.1
      obtain ⟨rfl, _⟩ := a2
      rw [a1.1, i1]
      exact ⟨rfl, by simp [i2]⟩
    · simp at h
theorem bytesS_size (l : List Int) : (bytesS l).size = l.length := by simp [bytesS, ByteArray.size]
theorem strOf_ok (htt : ∀ t i, tt t = some i → TOk P t i) (hI : HI W g st.ob w) {s t : Nat} {x v : SV} {vx : Value} (hst : isStr (tt t) = true) (hby : byteTI (elemTI tt (tt s)) = true) (h : strOf st x = some v) (hx : SVR g w x vx) : ∃ cv, (convert s t vx).run P w = .ok cv w ∧ SVR g w v cv ∧ svU U v := by
  have ht := isStr_und htt hst
  have hs : ∃ e, P.underlying s = some (.slice e) ∧ P.underlying e = some (.int .u8) := by
    unfold elemTI at hby
    split at hby
    · rename_i e m b z hti
      have h1 := (htt _ _ hti).1
      unfold byteTI at hby
      split at hby
      · rename_i hte
        obtain ⟨d, zv, i, h2, h3, _⟩ := htt _ _ hte
        cases d <;> simp [kindB] at h3
        subst h3
        exact ⟨e, h1, h2⟩
      · simp at hby
    · simp [byteTI] at hby
  obtain ⟨e, hs, he⟩ := hs
  have go : ∀ A n c, (convert s t (.slice A n c)).run P w = (Conv.bytesToString (.slice A n c)).run P w := fun A n c => by
    unfold convert
    simp only [Sem.run_bind, run_und hs, run_und ht, run_und he, Result.andThen_ok]
  have fin : ∀ (A : Option Addr) (n cap : Nat) (cs : List Value) (L : List Nat) (xs : List (List CT)) (l : List Int) (m : Nat), n = xs.length → 0 < m → intsOf xs = some l → REs w m xs cs L → n ≤ 9223372036854775807 → (n = 0 ∨ ∃ b o, A = some ⟨b, o, none⟩ ∧ CellsAt w b o cs) → ∃ cv, (convert s t (.slice A n cap)).run P w = .ok cv w ∧ SVR g w (.p false [.c (.str (bytesS l))]) cv ∧ svU U (.p false [.c (.str (bytesS l))]) := by
    intro A n cap cs L xs l m hn hm hl hR hsz hA
    obtain ⟨i1, i2⟩ := ints_cells hl hR
    have hsz' : (bytesS l).size ≤ 9223372036854775807 := by rw [bytesS_size]; omega
    refine ⟨.string (bytesS l), ?_, SVR_str hsz', svU_c _⟩
    rw [go]
    rcases hA with h0 | ⟨b, o, rfl, hc⟩
    · have : l = [] := List.eq_nil_of_length_eq_zero (by omega)
      subst this
      cases A with
      | none => rfl
      | some a =>
        have h1 := run_loadCells_list (P := P) w a [] (by simp)
        rw [h0]
        unfold Conv.bytesToString
        simp only [List.length_nil] at h1
        simp only [Sem.run_bind, h1, Result.andThen_ok]
        rfl
    · rw [hn, i2]
      exact run_bytes l fun j u hj => hc j u (by rw [i1]; exact hj)
  unfold strOf at h
  split at h
  · split at h
    · rename_i k _ e' m xs d hk
      obtain ⟨l, hl, rfl⟩ := Option.map_eq_some_iff.1 h
      have hv := row_of hx
      have ho := hI.obs k
      rw [hk] at ho
      obtain ⟨hm, cs, L, h1, h2, _⟩ := ho
      rw [hv]
      rcases h1.2 with ⟨h3, h4⟩ | ⟨b, cap, cur, h3, h4, h5, h6, h7, h8, h9⟩
      · rw [h3]
        exact fin _ _ _ cs L xs l m (by omega) hm hl h2 (by omega) (.inl rfl)
      · rw [h3]
        refine fin _ _ _ cs L xs l m rfl hm hl h2 (by unfold maxLen at h7; omega) (.inr ⟨b, 0, rfl, fun j u hj => ?_⟩)
        have := h1.cells (g := b) (by simp [h3, Value.ownBlock]) j u hj
        rw [add_lit0] at this
        simpa using this
    · simp at h
  · obtain ⟨l, hl, rfl⟩ := Option.map_eq_some_iff.1 h
    obtain ⟨A, cap, cs, L0, L1, rfl, h2, h3, h5, h6, h7, _⟩ := slice_of hx
    rename_i e' m' xs _
    refine fin _ _ _ cs L1 xs l _ rfl h5 hl h7 (by unfold maxLen at h3; omega) ?_
    rcases Nat.eq_zero_or_pos xs.length with h0 | h0
    · exact .inl h0
    · obtain ⟨b, off, h8, h9, hc⟩ := h6.at_ h0
      exact .inr ⟨b, off, h8, hc⟩
  · simp at h
theorem convO_ok (htt : ∀ t i, tt t = some i → TOk P t i) (hI : HI W g st.ob w) {s t : Nat} {x v : SV} {vx : Value} (h : convO tt st s t x = some v) (hx : SVR g w x vx) : ∃ cv, (convert s t vx).run P w = .ok cv w ∧ SVR g w v cv ∧ svU U v := by
  unfold convO at h
  split at h
  · rename_i hc
    simp only [Bool.and_eq_true] at hc
    exact strOf_ok htt hI hc.1 hc.2 h hx
  · exact conv_ok htt h hx
theorem RCs.avr {e : List CT} {cs : List Value} {L : List Nat} : RCs w e cs L → (∀ b ∈ L, ¬ g.own b) → All2 (AVR g w) (e.map .c) cs := by
  induction e generalizing cs L with
  | nil => intro h _; obtain ⟨rfl, rfl⟩ := h; trivial
  | cons x r ih =>
    rintro ⟨v, cs', L1, L2, rfl, rfl, h1, h2⟩ ho
    exact ⟨⟨L1, h1, fun b m => ho b (by simp [m])⟩, ih h2 fun b m => ho b (by simp [m])⟩
theorem svU_cs (a : Bool) (e : List CT) : avsU U (e.map AV.c) := fun y m => by
  obtain ⟨x, _, rfl⟩ := List.mem_map.1 m; trivial
/-- cells that lie from (b, lo) on, cut as a value of a type -/
theorem cut_ok (htt : ∀ t i, tt t = some i → TOk P t i) {t b lo off : Nat} {cs : List AV} {vs : List Value} {v : SV} (h : cut (tt t) cs off = some v) (hc : CellsAt w b lo vs) (hr : All2 (AVR g w) cs vs) (hu : avsU U cs) :
    ∃ cv, (Instr.loadAt t (.pointer (some ⟨b, lo + off, none⟩))).run P w = .ok cv w ∧ SVR g w v cv ∧ svU U v := by
  have hlen := hr.len
  have one : ∀ d, P.underlying t = some d → aggD d = false → ∀ x, cs[off]? = some x → ∃ cv, (Instr.loadAt t (.pointer (some ⟨b, lo + off, none⟩))).run P w = .ok cv w ∧ SVR g w (.p false [x]) cv ∧ svU U (.p false [x]) := fun d hd ha x hx => by
    obtain ⟨u, h1, h2⟩ := hr.at hx
    refine ⟨u, ?_, ⟨x, rfl, h2⟩, fun y m => by simp at m; subst m; exact hu y (List.mem_of_getElem? hx)⟩
    simp [Instr.loadAt, Instr.sureAddr, loadVar, run_agg hd, ha, load, Sem.run, hc off u h1]
  unfold cut at h
  split at h
  · rename_i fs n z hti
    split at h <;> simp at h
    rename_i hn
    subst h
    obtain ⟨fields, i, zvs, h1, h2, h3, _⟩ := htt t _ hti
    refine ⟨.agg ((vs.drop off).take n).toArray, ?_, ⟨_, rfl, (hr.drop off).take n⟩, fun y m => hu y (List.mem_of_mem_drop (List.mem_of_mem_take m))⟩
    have hl : ((vs.drop off).take n).length = i.size := by simp; omega
    have hload := run_loadCells_list (P := P) w ⟨b, lo + off, none⟩ ((vs.drop off).take n) (fun j u hj => by
      rw [add_lit0, Nat.add_assoc]
      refine hc _ u ?_
      have hjn : j < n := by
        have := (List.getElem?_eq_some_iff.1 hj).1
        simp at this; omega
      rw [List.getElem?_take, if_pos hjn, List.getElem?_drop] at hj
      exact hj)
    rw [hl] at hload
    simp [Instr.loadAt, Instr.sureAddr, loadVar, run_agg h1, aggD, run_size h2, hload]
  · simp at h
  · rename_i i hti hne hns
    obtain ⟨x, hx, rfl⟩ := Option.map_eq_some_iff.1 h
    cases i with
    | atom z => obtain ⟨d, zv, i, h1, h2, _⟩ := htt t _ hns; exact one d h1 (kind_agg h2) x hx
    | strct fs n z => exact absurd rfl (hti _ _ _)
    | slice e m b z => exact one _ (htt t _ hns).1 rfl x hx
    | map kk vk =>
      obtain ⟨kt, et, _, _, _, _, h1, _⟩ := htt t _ hns
      exact one _ h1 rfl x hx
    | ifc => obtain ⟨ms, h1⟩ := htt t _ hns; exact one _ h1 rfl x hx
    | eqs ks => exact absurd rfl (hne _)
  · simp at h
end
end Go.Proofs.Ytfbonanbiblkbaa

namespace Go.Proofs.Ytfbonanbiblkbaa
open Go.RowKit
section
variable {P : Program} {W : Base} {U : Nat → Prop} {key : Nat} {st : St} {g : Gh} {w : World} {a : Act} {tt : Nat → Option TI}
/-- what a live row's elements lead to is no block that is written to -/
theorem HI.deep {ob : Nat → Ob} {k e m : Nat} {xs : List (List CT)} {d : Nat} (hI : HI W g ob w) (hk : ob k = .row e m xs d) : 0 < m ∧ ∃ cs L, w.ownsRow 0 e m (g.val k) xs.length cs ∧ REs w m xs cs L ∧ (∀ b ∈ L, ¬ g.own b) ∧ ((d = 2 ∧ g.O k = (g.val k).ownBlock.toList ∧ g.D k = L) ∨ (d = 1 ∧ g.O k = (g.val k).ownBlock.toList ∧ g.D k = []) ∨ (d = 0 ∧ g.O k = [] ∧ g.D k = [] ∧ ∀ b ∈ (g.val k).ownBlock.toList, ¬ g.own b)) := by
  have ho := hI.obs k
  rw [hk] at ho
  obtain ⟨hm, cs, L, h1, h2, h4⟩ := ho
  refine ⟨hm, cs, L, h1, h2, ?_, ?_⟩
  · rcases h4 with ⟨_, _, h4⟩ | ⟨_, _, _, h4⟩ | ⟨_, _, _, h4⟩
    · rintro b mb (⟨j, mj⟩ | hz)
      · by_cases hjk : j = k
        · subst hjk
          have := hI.nodup j
          rw [List.nodup_append] at this
          exact this.2.2 b mj b (h4 ▸ mb) rfl
        · exact hI.apart j k hjk b (by simp [mj]) (by simp [h4, mb])
      · exact hI.nz (k := k) (by simp [h4, mb]) hz
    · exact h4
    · exact fun b mb => h4 b (by simp [mb])
  · rcases h4 with h4 | ⟨q1, q2, q3, _⟩ | ⟨q1, q2, q3, q4⟩
    · exact .inl h4
    · exact .inr (.inl ⟨q1, q2, q3⟩)
    · exact .inr (.inr ⟨q1, q2, q3, fun b mb => q4 b (by simp [mb])⟩)
/-- of a row that is the call's own: the block that it writes to -/
theorem HI.deepO {ob : Nat → Ob} {k e m : Nat} {xs : List (List CT)} {d : Nat} (hI : HI W g ob w) (hk : ob k = .row e m xs d) (hd : ¬ d = 0) : 0 < m ∧ ∃ cs L, w.ownsRow 0 e m (g.val k) xs.length cs ∧ REs w m xs cs L ∧ (∀ b ∈ L, ¬ g.own b) ∧ g.O k = (g.val k).ownBlock.toList ∧ ((d = 2 ∧ g.D k = L) ∨ (d = 1 ∧ g.D k = [])) := by
  obtain ⟨hm, cs, L, h1, h2, h3, h4⟩ := hI.deep hk
  refine ⟨hm, cs, L, h1, h2, h3, ?_⟩
  rcases h4 with ⟨q1, q2, q3⟩ | ⟨q1, q2, q3⟩ | ⟨q1, _⟩
  · exact ⟨q2, .inl ⟨q1, q3⟩⟩
  · exact ⟨q2, .inr ⟨q1, q3⟩⟩
  · exact absurd q1 hd
theorem REs.at {m : Nat} : ∀ {xs : List (List CT)} {cs : List Value} {L : List Nat} {i : Nat} {e : List CT}, REs w m xs cs L → xs[i]? = some e →
    ∃ c L', RCs w e c L' ∧ c.length = m ∧ (∀ b ∈ L', b ∈ L) ∧ ∀ j u, c[j]? = some u → cs[i * m + j]? = some u
  | [], _, _, _, _, _, h => by simp at h
  | x :: r, _, _, 0, e, ⟨c1, c2, L1, L2, rfl, rfl, h3, h4⟩, h => by
    simp at h; subst h
    exact ⟨c1, L1, h3.1, h3.2, fun b mb => by simp [mb], fun j u hu => by
      rw [Nat.zero_mul, Nat.zero_add, List.getElem?_append_left (List.getElem?_eq_some_iff.1 hu).1]; exact hu⟩
  | x :: r, _, _, i + 1, e, ⟨c1, c2, L1, L2, rfl, rfl, h3, h4⟩, h => by
    obtain ⟨c, L', a1, a2, a3, a4⟩ := REs.at h4 (i := i) (e := e) (by simpa using h)
    refine ⟨c, L', a1, a2, fun b mb => by simp [a3 b mb], fun j u hu => ?_⟩
    have hl := h3.2
    rw [List.getElem?_append_right (by rw [Nat.add_mul]; omega)]
    rw [← a4 j u hu]
    congr 1
    rw [hl, Nat.add_mul]; omega
theorem REs.len {m : Nat} : ∀ {xs : List (List CT)} {cs : List Value} {L : List Nat}, REs w m xs cs L → cs.length = xs.length * m
  | [], _, _, h => by simp [h.1]
  | x :: r, _, _, ⟨c1, c2, L1, L2, rfl, rfl, h3, h4⟩ => by simp [h3.2, REs.len h4, Nat.add_mul]; omega
theorem idx_ok (htt : ∀ t i, tt t = some i → TOk P t i) (hI : HI W g st.ob w) (hU : StU U st) {t e m bytes : Nat} {z : List AV} (hti : tt t = some (.slice e m bytes z)) {x i v : SV} {vx vi : Value} (h : idxAddr st m x i = some v) (hx : SVR g w x vx) (hxu : svU U x) (hi : SVR g w i vi) :
    ∃ cv, (Instr.indexAt t vx vi).run P w = .ok cv w ∧ SVR g w v cv ∧ svU U v := by
  obtain ⟨hu, hm, _, ⟨ie, zv, hie, hsz, _⟩, _⟩ := htt t _ hti
  have run : ∀ (b o n c : Nat) (k : IntKind) (q : Int), 0 ≤ q → q < n → (Instr.indexAt t (.slice (some ⟨b, o, none⟩) n c) (.int k q)).run P w = .ok (.pointer (some ⟨b, o + q.toNat * m, none⟩)) w := fun b o n c k q h0 h1 => by
    simp [Instr.indexAt, asIntOf, run_und hu, h0, h1, run_size hie, hsz, add_lit0]
  unfold idxAddr at h
  split at h
  · have ei := int_of hi
    subst ei
    split at h
    · rename_i hq
      obtain ⟨x, hx1, rfl⟩ := Option.map_eq_some_iff.1 h
      obtain ⟨A, cap, cs, L0, L1, rfl, h2, h3, h5, h6, h7, ho⟩ := slice_of hx
      obtain ⟨h0, rfl⟩ := hq
      have hlt := (List.getElem?_eq_some_iff.1 hx1).1
      obtain ⟨b, off, rfl, rfl, hc⟩ := h6.at_ (by omega)
      obtain ⟨c, L', a1, a2, a3, a4⟩ := h7.at hx1
      refine ⟨_, run b off _ _ _ _ h0 (by omega), ⟨b, off + _, c, L', by rw [Nat.add_zero], fun j u hj => ?_, a1, fun y my => ?_, ?_⟩, trivial⟩
      · rw [Nat.add_assoc]; exact hc _ u (a4 j u hj)
      · rcases List.mem_cons.1 my with rfl | my
        · exact ho _ (by simp)
        · exact ho _ (by simp [a3 y my])
      · exact h6.lt h5 b (by simp)
    · simp at h
  · rename_i k _ _
    have ei := int_of hi
    subst ei
    split at h
    · rename_i e' m' xs d hk
      split at h
      · rename_i hq
        obtain ⟨h0, h1, rfl⟩ := hq
        simp only [Option.some.injEq] at h
        subst h
        have hv := row_of hx
        subst hv
        obtain ⟨_, cs, L, o1, _⟩ := hI.deep hk
        rcases o1.2 with ⟨_, hn⟩ | ⟨b, cap, cur, hv, _⟩
        · omega
        · refine ⟨_, by rw [hv]; exact run b 0 _ _ _ _ h0 h1, ⟨b, _, _, hv, by simp⟩, by have := hxu (.row k) (by simp); exact this⟩
      · simp at h
    · simp at h
  · simp at h
theorem idxs_ok (htt : ∀ t i, tt t = some i → TOk P t i) {t : Nat} {x i v : SV} {vx vi : Value} (h : idxStr (tt t) x i = some v) (hx : SVR g w x vx) (hi : SVR g w i vi) :
    ∃ cv, (Instr.index t vx vi).run P w = .ok cv w ∧ SVR g w v cv ∧ svU U v := by
  unfold idxStr at h
  split at h
  · have ei := int_of hi
    subst ei
    obtain ⟨rfl, _⟩ := str_of hx
    split at h
    · rename_i hq
      obtain ⟨b, hb, rfl⟩ := Option.map_eq_some_iff.1 h
      refine ⟨_, ?_, SVR_int _ _, svU_c _⟩
      simp [Instr.index, asIntOf, run_und (isStr_und htt hq.2), hq.1, hb]
    · simp at h
  · simp at h
theorem pt_of {e : List CT} {v : Value} (h : SVR g w (.p false [.c (.pt e)]) v) : ∃ b cs L, v = .pointer (some ⟨b, 0, none⟩) ∧ b < w.heap.size ∧ CellsAt w b 0 cs ∧ RCs w e cs L ∧ ∀ x ∈ b :: L, ¬ g.own x := by
  obtain ⟨x, hx, h⟩ := h
  simp at hx
  subst hx
  obtain ⟨_, ⟨b, cs, L, h1, h2, rfl, h4, h5⟩, ho⟩ := h
  exact ⟨b, cs, L, h1, h2, h4, h5, ho⟩
theorem load_ok (htt : ∀ t i, tt t = some i → TOk P t i) (hI : HI W g st.ob w) (hU : StU U st) {t : Nat} {x v : SV} {vx : Value} (h : loadV st (tt t) x = some v) (hx : SVR g w x vx) :
    ∃ cv, (Instr.loadAt t vx).run P w = .ok cv w ∧ SVR g w v cv ∧ svU U v := by
  unfold loadV at h
  split at h
  · rename_i k off
    split at h
    · rename_i tb cs hk
      obtain ⟨b, h1, rfl⟩ := hx
      have ho := hI.obs k
      rw [hk] at ho
      obtain ⟨b', vs, o1, o2, o3, o4, o5⟩ := ho
      have hb : b = b' := by rw [o1] at h1; simpa using h1.symm
      subst hb
      have hu := hU.ob k
      rw [hk] at hu
      have hc : CellsAt w b 0 vs := fun j u hj => by
        rw [Nat.zero_add, cell_of_row w b j vs.toArray tb (0, 0) o4]; simpa using hj
      have := cut_ok (P := P) htt h hc o5 hu
      simpa using this
    · simp at h
  · rename_i k m i off
    split at h
    · rename_i e m' xs d hk
      obtain ⟨x, hx1, h'⟩ := Option.bind_eq_some_iff.1 h
      obtain ⟨b, n, c, h1, rfl⟩ := hx
      obtain ⟨hm, cs, L, o1, o2, o3, _⟩ := hI.deep hk
      split at h'
      · rename_i hmm
        subst hmm
        obtain ⟨c', L', a1, a2, a3, a4⟩ := o2.at hx1
        have hc : CellsAt w b (i * m) c' := fun j u hj => by
          have := o1.cells (g := b) (by simp [h1, Value.ownBlock]) (i * m + j) u (a4 j u hj)
          rw [add_lit0, Nat.zero_add] at this
          exact this
        exact cut_ok htt h' hc (a1.avr fun y my => o3 y (a3 y my)) (svU_cs true _)
      · simp at h'
    · simp at h
  · obtain ⟨b, lo, cs, L, rfl, h2, h3, h4, h5⟩ := hx
    exact cut_ok htt h h2 (h3.avr fun y my => h4 y (by simp [my])) (svU_cs true _)
  · obtain ⟨b, cs, L, rfl, h2, h3, h4, h5⟩ := pt_of hx
    have := cut_ok (P := P) (U := U) htt h h3 (h4.avr fun y my => h5 y (by simp [my])) (svU_cs true _)
    simpa using this
  · simp at h
theorem ptr_ok {d : Nat} {x v : SV} {vx : Value} (h : ptrAdd d x = some v) (hx : SVR g w x vx) (hu : svU U x) : ∃ b o, vx = .pointer (some ⟨b, o, none⟩) ∧ SVR g w v (.pointer (some ⟨b, o + d, none⟩)) ∧ svU U v := by
  unfold ptrAdd at h
  split at h <;> simp at h <;> subst h
  · obtain ⟨b, h1, rfl⟩ := hx; exact ⟨b, _, rfl, ⟨b, h1, rfl⟩, hu⟩
  · obtain ⟨b, n, c, h1, rfl⟩ := hx; exact ⟨b, _, rfl, ⟨b, n, c, h1, by rw [Nat.add_assoc]⟩, hu⟩
  · obtain ⟨b, lo, cs, L, rfl, h⟩ := hx; exact ⟨b, _, rfl, ⟨b, lo, cs, L, by rw [Nat.add_assoc], h⟩, trivial⟩
  · obtain ⟨b, cs, L, rfl, h2, h3, h4, h5⟩ := pt_of hx
    exact ⟨b, 0, rfl, ⟨b, 0, cs, L, rfl, h3, h4, h5, h2⟩, trivial⟩
theorem fad_ok (htt : ∀ t i, tt t = some i → TOk P t i) {t f n : Nat} {fs : List FI} {z : List AV} (hti : tt t = some (.strct fs n z)) {fi : FI} (hf : fs[f]? = some fi) {x v : SV} {vx : Value} (h : ptrAdd fi.off x = some v) (hx : SVR g w x vx) (hu : svU U x) :
    ∃ cv, (Instr.fieldAt t vx f).run P w = .ok cv w ∧ SVR g w v cv ∧ svU U v := by
  obtain ⟨b, o, rfl, h1, h2⟩ := ptr_ok h hx hu
  obtain ⟨fields, i, zvs, u1, _, _, _, _, u2⟩ := htt t _ hti
  obtain ⟨fl, e1, e2, e3, j, d, e4, e5, _⟩ := u2.at hf
  have e1' : fields[f]? = some fl := by simpa using e1
  refine ⟨_, ?_, h1, h2⟩
  simp [Instr.fieldAt, run_und u1, e1', Instr.sureAddr, fieldPlace, run_size e4, e5, e3, add_lit0, e2]
theorem fie_ok (htt : ∀ t i, tt t = some i → TOk P t i) {t f n : Nat} {fs : List FI} {z : List AV} (hti : tt t = some (.strct fs n z)) {x v : SV} {vx : Value} (h : fieldV fs f x = some v) (hx : SVR g w x vx) (hu : svU U x) :
    ∃ cv, (Instr.field t vx f).run P w = .ok cv w ∧ SVR g w v cv ∧ svU U v := by
  unfold fieldV at h
  split at h
  · rename_i cs
    obtain ⟨fi, hf, h⟩ := Option.bind_eq_some_iff.1 h
    obtain ⟨vs, rfl, hr⟩ := hx
    obtain ⟨fields, i, zvs, u1, _, _, _, _, u2⟩ := htt t _ hti
    obtain ⟨fl, e1, e2, e3, j, d, e4, e5, e6, e7⟩ := u2.at hf
    have e1' : fields[f]? = some fl := by simpa using e1
    have hlen := hr.len
    split at h
    · rename_i ha
      split at h <;> simp at h
      rename_i hn
      subst h
      refine ⟨.agg ((vs.drop fi.off).take fi.size).toArray, ?_, ⟨_, rfl, (hr.drop _).take _⟩, fun y m => hu y (List.mem_of_mem_drop (List.mem_of_mem_take m))⟩
      simp [Instr.field, run_und u1, e1', asAgg, part, run_agg e6, e7, ha, run_size e4, e5, e2]
    · rename_i ha
      obtain ⟨y, hy, rfl⟩ := Option.map_eq_some_iff.1 h
      obtain ⟨u, b1, b2⟩ := hr.at hy
      refine ⟨u, ?_, ⟨y, rfl, b2⟩, fun z mz => by simp at mz; subst mz; exact hu z (List.mem_of_getElem? hy)⟩
      simp [Instr.field, run_und u1, e1', asAgg, part, run_agg e6, e7, ha, e2, b1]
  · simp at h
theorem pick_ok {c : Bool} {x y : SV} {vc vx vy : Value} (hc : SVR g w (.p false [.c (.bool c)]) vc) (hx : SVR g w x vx ∧ svU U x) (hy : SVR g w y vy ∧ svU U y) :
    ∃ cv, (do pure (Next.value (if ← asBool vc then vx else vy)) : Sem Next).run P w = .ok (.value cv) w ∧ SVR g w (if c = true then x else y) cv ∧ svU U (if c = true then x else y) := by
  have := bool_of hc
  subst this
  cases c
  · exact ⟨vy, by simp [asBool], by simpa using hy.1, by simpa using hy.2⟩
  · exact ⟨vx, by simp [asBool], by simpa using hx.1, by simpa using hx.2⟩
theorem ext_ok {i : Nat} {x v : SV} {vx : Value} (h : extV i x = some v) (hx : SVR g w x vx) (hu : svU U x) : ∃ cv, (Instr.extract vx i).run P w = .ok cv w ∧ SVR g w v cv ∧ svU U v := by
  unfold extV at h
  split at h
  · obtain ⟨y, hy, rfl⟩ := Option.map_eq_some_iff.1 h
    obtain ⟨vs, rfl, hr⟩ := hx
    obtain ⟨u, b1, b2⟩ := hr.at hy
    exact ⟨u, by simp [Instr.extract, b1], b2, hu y (List.mem_of_getElem? hy)⟩
  · simp at h
theorem max_ok {lo : Bool} {x y v : SV} {vx vy : Value} {ts : Array TypeId} {ty : TypeId} (h : maxV lo x y = some v) (hx : SVR g w x vx) (hy : SVR g w y vy) :
    ∃ cv, ((if lo then Builtin.min_ ts ty #[vx, vy] else Builtin.max_ ts ty #[vx, vy]) : Sem Value).run P w = .ok cv w ∧ SVR g w v cv ∧ svU U v := by
  unfold maxV at h
  split at h
  · have ex := int_of hx
    have ey := int_of hy
    subst ex ey
    simp only [Option.some.injEq] at h
    subst h
    refine ⟨_, ?_, SVR_int _ _, svU_c _⟩
    cases lo
    · simp [Builtin.max_, Builtin.max2]
    · simp [Builtin.min_, Builtin.min2]
  · simp at h
end
end Go.Proofs.Ytfbonanbiblkbaa

namespace Go.Proofs.Ytfbonanbiblkbaa
open Go.RowKit
theorem splice_len {α : Type} (l : List α) (off : Nat) (vs : List α) (h : off + vs.length ≤ l.length) : (splice l off vs).length = l.length := by
  simp [splice]; omega
theorem splice_cons {α : Type} (l : List α) (n : Nat) (v : α) (r : List α) (h : n + (r.length + 1) ≤ l.length) : splice (l.set n v) (n + 1) r = splice l n (v :: r) := by
  unfold splice
  have e1 : (l.set n v).take (n + 1) = l.take n ++ [v] := by
    rw [List.take_succ_eq_append_getElem (by simp; omega)]
    simp [List.take_set_of_le]
  have e2 : (l.set n v).drop (n + 1 + r.length) = l.drop (n + (v :: r).length) := by
    rw [List.drop_set_of_lt (by omega)]
    congr 1
    simp; omega
  rw [e1, e2]; simp
theorem foldl_set (off : Nat) : ∀ (vs : List Value) (k : Nat) (cells : Array Value), off + k + vs.length ≤ cells.size →
    (vs.zipIdx k).foldl (fun (cs : Array Value) (p : Value × Nat) => cs.setIfInBounds (off + p.2) p.1) cells = (splice cells.toList (off + k) vs).toArray
  | [], k, cells, h => by simp [splice]
  | v :: r, k, cells, h => by
    rw [List.zipIdx_cons, List.foldl_cons, foldl_set off r (k + 1) _ (by simp at h ⊢; omega)]
    have := splice_cons cells.toList (off + k) v r (by simpa using h)
    rw [← this]
    simp [Nat.add_assoc]
theorem fold_cells (off : Nat) (v : Value) (vs : List Value) (hv : v.cells = vs.toArray) (cells : Array Value) (h : off + vs.length ≤ cells.size) :
    v.cells.zipIdx.foldl (fun cs (c, j) => cs.setIfInBounds (off + j) c) cells = (splice cells.toList off vs).toArray := by
  have := foldl_set off vs 0 cells (by simpa using h)
  rw [hv, ← Array.foldl_toList]
  simpa using this
section
variable {P : Program} {W : Base} {U : Nat → Prop} {key : Nat} {st : St} {g : Gh} {w : World} {a : Act} {tt : Nat → Option TI}
theorem All2.splice {α β : Type} {R : α → β → Prop} {l vs : List α} {r us : List β} (h : All2 R l r) (h' : All2 R vs us) (off : Nat) : All2 R (splice l off vs) (splice r off us) := by
  unfold Go.Proofs.Ytfbonanbiblkbaa.splice
  rw [h'.len]
  exact (h.take _).append (h'.append (h.drop _))
theorem avsU_splice {l vs : List AV} (h : avsU U l) (h' : avsU U vs) (off : Nat) : avsU U (splice l off vs) := by
  intro y m
  unfold splice at m
  rcases List.mem_append.1 m with m | m
  · exact h y (List.mem_of_mem_take m)
  · rcases List.mem_append.1 m with m | m
    · exact h' y m
    · exact h y (List.mem_of_mem_drop m)
theorem fill_ok {place : Nat → Option (Nat × Nat)} {fs : List FI} (hp : ∀ i fi, fs[i]? = some fi → place i = some (fi.off, fi.size)) :
    ∀ {parts : List (Nat × SV)} {ps : List (Nat × Value)} {cs cs' : List AV} {vs : List Value}, fillS fs cs parts = some cs' → All2 (fun p q => p.1 = q.1 ∧ SVR g w p.2 q.2 ∧ svU U p.2) parts ps → All2 (AVR g w) cs vs → avsU U cs →
      ∃ vs' : List Value, Instr.fill place vs.toArray ps = some vs'.toArray ∧ All2 (AVR g w) cs' vs' ∧ avsU U cs'
  | [], [], cs, cs', vs, h, _, hr, hu => by simp [fillS] at h; subst h; exact ⟨vs, rfl, hr, hu⟩
  | [], _ :: _, _, _, _, _, h, _, _ => h.elim
  | _ :: _, [], _, _, _, _, h, _, _ => h.elim
  | (i, s) :: r, (j, v) :: ps, cs, cs', vs, h, ⟨⟨e, hs, hsu⟩, hps⟩, hr, hu => by
    simp only at e hs hsu
    subst e
    cases s with
    | p ag us =>
      simp only [fillS] at h
      obtain ⟨f, hf, h⟩ := Option.bind_eq_some_iff.1 h
      split at h
      · rename_i hl
        obtain ⟨us', c1, c2⟩ := PVR.cells hs
        have hlen := c2.len
        have hlen2 := hr.len
        obtain ⟨vs', d1, d2, d3⟩ := fill_ok hp h hps (hr.splice c2 f.off) (avsU_splice hu hsu f.off)
        refine ⟨vs', ?_, d2, d3⟩
        have hcs : v.cells.size = us'.length := by simp [c1]
        rw [Instr.fill, hp i f hf]
        simp only
        rw [if_neg (by simp [hcs]; omega), fold_cells f.off v us' c1 _ (by simp; omega)]
        simpa using d1
      · simp at h
    | _ => simp [fillS] at h
theorem All2.map_right {α β γ : Type} {R : α → γ → Prop} {f : β → γ} : ∀ {l : List α} {r : List β}, All2 (fun a b => R a (f b)) l r → All2 R l (r.map f)
  | [], [], _ => trivial
  | _ :: _, _ :: _, h => ⟨h.1, h.2.map_right⟩
  | [], _ :: _, h => h.elim
  | _ :: _, [], h => h.elim
theorem All2.of_map {α β γ : Type} {R : β → γ → Prop} (f : α → β) (h : α → γ) : ∀ {l : List α}, (∀ x ∈ l, R (f x) (h x)) → All2 R (l.map f) (l.map h)
  | [], _ => trivial
  | x :: l, hh => ⟨hh x (by simp), All2.of_map f h fun y m => hh y (by simp [m])⟩
theorem consts_AVR : ∀ {z : List AV} {zvs : List Value}, All2 (fun a v => constB a v = true) z zvs → All2 (AVR g w) z zvs ∧ avsU U z
  | [], [], _ => ⟨trivial, fun _ m => by simp at m⟩
  | x :: z, v :: zvs, h => by
    obtain ⟨h1, h2⟩ := consts_AVR (z := z) (zvs := zvs) h.2
    refine ⟨⟨const_AVR h.1, h1⟩, fun y m => ?_⟩
    rcases List.mem_cons.1 m with rfl | m
    · have := h.1
      cases y <;> first | trivial | simp [constB] at this
    · exact h2 y m
  | [], _ :: _, h => h.elim
  | _ :: _, [], h => h.elim
theorem places_ok : ∀ {fs : List FI} {fields : List Field}, All2 (fun (fi : FI) (f : Field) => f.offset = fi.off ∧ fi.size ≠ 0 ∧ ∃ j d, P.info? f.type = some j ∧ j.size = fi.size ∧ P.underlying f.type = some d ∧ aggD d = fi.agg) fs fields →
    fields.mapM (fun f => (P.info? f.type).map fun i => (f.offset, i.size)) = some (fs.map fun fi => (fi.off, fi.size))
  | [], [], _ => rfl
  | fi :: fs, f :: fields, ⟨⟨h1, _, j, d, h2, h3, _⟩, h⟩ => by
    simp [List.mapM_cons, h2, h3, h1, places_ok h]
  | [], _ :: _, h => h.elim
  | _ :: _, [], h => h.elim
theorem build_ok (htt : ∀ t i, tt t = some i → TOk P t i) (hS : ∀ t, SVR g w (st.sl t) (a.tmps.getD t undef)) (hU : StU U st) {t n : Nat} {fs : List FI} {z : List AV} (hti : tt t = some (.strct fs n z)) {parts : Array (Nat × Operand)} {cs : List AV} (h : fillS fs z (parts.toList.map (partS tt st fs z)) = some cs) :
    ∃ cv, (Instr.build t (parts.map fun (i, x) => (i, a.eval x))).run P w = .ok cv w ∧ SVR g w (.p true cs) cv ∧ svU U (.p true cs) := by
  obtain ⟨fields, i, zvs, u1, u2, u3, u4, u5, u6⟩ := htt t _ hti
  obtain ⟨hz, hzu⟩ := consts_AVR (g := g) (w := w) (U := U) u5
  have hparts : All2 (fun (p : Nat × SV) (q : Nat × Value) => p.1 = q.1 ∧ SVR g w p.2 q.2 ∧ svU U p.2) (parts.toList.map (partS tt st fs z)) (parts.toList.map fun p => (p.1, a.eval p.2)) := by
    refine All2.of_map _ _ fun p _ => ?_
    unfold partS
    split
    · rename_i hc
      rw [hc]
      refine ⟨rfl, ?_⟩
      dsimp only
      split
      · exact ⟨⟨_, rfl, rfl⟩, fun y m => by simp at m; subst m; trivial⟩
      · exact ⟨trivial, trivial⟩
    · have := ev_ok htt hS hU 0 p.2
      exact ⟨rfl, this⟩
  have hpl : ∀ (i : Nat) (fi : FI), fs[i]? = some fi → ((fs.map fun (fi : FI) => (fi.off, fi.size)).toArray[i]?) = some (fi.off, fi.size) := fun i fi hf => by simp [hf]
  obtain ⟨vs', d1, d2, d3⟩ := fill_ok hpl h hparts hz hzu
  refine ⟨.agg vs'.toArray, run_build w t _ _ ?_, ⟨vs', rfl, d2⟩, d3⟩
  unfold Program.built
  simp only [u1, u2, u4, places_ok u6]
  have e : (parts.map fun (x : Nat × Operand) => (x.1, a.eval x.2)).toList = parts.toList.map fun p => (p.1, a.eval p.2) := by simp
  have e2 : (parts.map fun x => match x with | (i, x) => (i, a.eval x)) = parts.map fun (x : Nat × Operand) => (x.1, a.eval x.2) := rfl
  rw [e2, e]
  exact d1
theorem Sl.sub {m n : Nat} {A : Option Addr} {cs : List Value} {L : List Nat} (h : Sl w m A n cs L) (l q cap : Nat) (hm : 0 < m) (hq : l + q ≤ n) (hcap : n ≤ cap) :
    ∃ A' L', A' = (if cap = l then A else A.map (·.add (l * m))) ∧ Sl w m A' q ((cs.drop (l * m)).take (q * m)) L' ∧ ∀ b ∈ L', b ∈ L := by
  have hlen := h.1
  have hlm : l * m + q * m ≤ n * m := by rw [← Nat.add_mul]; exact Nat.mul_le_mul_right m hq
  refine ⟨_, if q = 0 then [] else L, rfl, ⟨by simp; omega, ?_⟩, fun b mb => ?_⟩
  · by_cases hq0 : q = 0
    · exact .inl ⟨hq0, by simp [hq0]⟩
    · rcases h.2 with ⟨h0, _⟩ | ⟨_, b, off, rfl, rfl, hc⟩
      · omega
      · refine .inr ⟨by omega, b, off + l * m, by rw [if_neg (by omega)]; simp [add_lit0], by simp [hq0], fun j u hj => ?_⟩
        rw [Nat.add_assoc]
        refine hc _ u ?_
        have hjq : j < q * m := by
          have := (List.getElem?_eq_some_iff.1 hj).1
          simp at this; omega
        rw [List.getElem?_take, if_pos hjq, List.getElem?_drop] at hj
        exact hj
  · split at mb
    · simp at mb
    · exact mb
theorem REs.drop {m : Nat} : ∀ {xs : List (List CT)} {cs : List Value} {L : List Nat} (l : Nat), REs w m xs cs L → ∃ L', REs w m (xs.drop l) (cs.drop (l * m)) L' ∧ ∀ b ∈ L', b ∈ L
  | xs, cs, L, 0, h => ⟨L, by simpa using h, fun _ mb => mb⟩
  | [], cs, L, l + 1, h => ⟨[], by obtain ⟨rfl, rfl⟩ := h; simp [REs], by simp⟩
  | x :: r, _, _, l + 1, ⟨c1, c2, L1, L2, rfl, rfl, h3, h4⟩ => by
    obtain ⟨L', h5, h6⟩ := REs.drop l h4
    refine ⟨L', ?_, fun b mb => by simp [h6 b mb]⟩
    have e : (l + 1) * m = c1.length + l * m := by rw [h3.2, Nat.add_mul]; omega
    have e2 : (c1 ++ c2).drop (c1.length + l * m) = c2.drop (l * m) := by
      rw [List.drop_append, List.drop_of_length_le (Nat.le_add_right _ _), List.nil_append, Nat.add_sub_cancel_left]
    rw [e, e2]
    simpa using h5
theorem REs.take {m : Nat} : ∀ {xs : List (List CT)} {cs : List Value} {L : List Nat} (l : Nat), REs w m xs cs L → ∃ L', REs w m (xs.take l) (cs.take (l * m)) L' ∧ ∀ b ∈ L', b ∈ L
  | xs, cs, L, 0, h => ⟨[], by simp [REs], by simp⟩
  | [], cs, L, l + 1, h => ⟨[], by obtain ⟨rfl, rfl⟩ := h; simp [REs], by simp⟩
  | x :: r, _, _, l + 1, ⟨c1, c2, L1, L2, rfl, rfl, h3, h4⟩ => by
    obtain ⟨L', h5, h6⟩ := REs.take l h4
    refine ⟨L1 ++ L', ?_, fun b mb => by
      rcases List.mem_append.1 mb with mb | mb
      · simp [mb]
      · simp [h6 b mb]⟩
    have e : (l + 1) * m = c1.length + l * m := by rw [h3.2, Nat.add_mul]; omega
    rw [e, List.take_length_add_append]
    exact ⟨c1, _, L1, L', rfl, rfl, h3, h5⟩
theorem bound_run {k : IntKind} {i : Int} {y : Nat} {code : BoundsCode} (h0 : 0 ≤ i) (h1 : i ≤ y) : (Instr.sliceBound (.int k i) y code).run P w = .ok i.toNat w := by
  simp [Instr.sliceBound, asIntOf, h0, h1]
def optR (g : Gh) (w : World) : Option SV → Option Value → Prop
  | none, none => True
  | some s, some u => SVR g w s u
  | _, _ => False
theorem bounds_run {lo hi : Option SV} {vlo vhi : Option Value} {len cap l h : Nat} {b : Bool} (hh : hiB len hi = some h) (hl : loB h lo = some l) (hlo : optR g w lo vlo) (hhi : optR g w hi vhi) (hc : len ≤ cap) :
    (Instr.sliceBounds b len cap vlo vhi none).run P w = .ok (l, h, cap) w ∧ l ≤ h ∧ h ≤ len := by
  have e1 : ((match vhi, (none : Option Value) with | some v, some _ => Instr.sliceBound v cap .slice3B | some v, none => Instr.sliceBound v cap (if b then .sliceAcap else .sliceAlen) | none, none => pure len | none, some _ => stuck "Slice: max without high") : Sem Nat).run P w = .ok h w ∧ h ≤ len := by
    unfold hiB at hh
    split at hh
    · simp only [Option.some.injEq] at hh
      subst hh
      cases vhi with
      | none => exact ⟨rfl, Nat.le_refl _⟩
      | some v => exact hhi.elim
    · split at hh <;> simp only [Option.some.injEq, reduceCtorEq] at hh
      rename_i hq
      subst hh
      cases vhi with
      | none => exact hhi.elim
      | some v =>
        have e := int_of hhi
        subst e
        exact ⟨bound_run hq.1 (by omega), by omega⟩
    · simp at hh
  have e2 : ((match vlo with | some v => Instr.sliceBound v h .sliceB | none => pure 0) : Sem Nat).run P w = .ok l w ∧ l ≤ h := by
    unfold loB at hl
    split at hl
    · simp only [Option.some.injEq] at hl
      subst hl
      cases vlo with
      | none => exact ⟨rfl, Nat.zero_le _⟩
      | some v => exact hlo.elim
    · split at hl <;> simp only [Option.some.injEq, reduceCtorEq] at hl
      rename_i hq
      subst hl
      cases vlo with
      | none => exact hlo.elim
      | some v =>
        have e := int_of hlo
        subst e
        exact ⟨bound_run hq.1 hq.2, by omega⟩
    · simp at hl
  refine ⟨?_, e2.2, e1.2⟩
  unfold Instr.sliceBounds
  simp only [Sem.run_bind, Sem.run_pure, Result.andThen_ok, Option.isSome_none, Bool.false_eq_true, if_false]
  have e1' := e1.1
  have e2' := e2.1
  cases vhi <;> cases vlo <;> simp_all
theorem slice_ok (htt : ∀ t i, tt t = some i → TOk P t i) {t : Nat} {x v : SV} {lo hi : Option SV} {vx : Value} {vlo vhi : Option Value} (h : sliceV (tt t) lo hi x = some v) (hx : SVR g w x vx)
    (hlo : optR g w lo vlo) (hhi : optR g w hi vhi) : ∃ cv, (Instr.sliceAt t vx vlo vhi none).run P w = .ok cv w ∧ SVR g w v cv ∧ svU U v := by
  unfold sliceV at h
  split at h
  · rename_i s
    split at h
    · rename_i hstr
      have hu := isStr_und htt hstr
      obtain ⟨q, hq, h⟩ := Option.bind_eq_some_iff.1 h
      obtain ⟨l, hl, rfl⟩ := Option.map_eq_some_iff.1 h
      obtain ⟨rfl, hs⟩ := str_of hx
      obtain ⟨b1, b2, b3⟩ := bounds_run (P := P) (b := false) hq hl hlo hhi (Nat.le_refl _)
      refine ⟨_, ?_, SVR_str (by rw [ByteArray.size_extract]; omega), svU_c _⟩
      simp [Instr.sliceAt, run_und hu, Instr.slice, b1]
    · simp at h
  · rename_i e m xs
    split at h
    · rename_i hsz
      obtain ⟨q, hq, h⟩ := Option.bind_eq_some_iff.1 h
      obtain ⟨l, hl, rfl⟩ := Option.map_eq_some_iff.1 h
      obtain ⟨A, cap, cs, L0, L1, rfl, h2, h3, h5, h6, h7, ho⟩ := slice_of hx
      obtain ⟨b1, b2, b3⟩ := bounds_run (P := P) (b := true) hq hl hlo hhi h2
      obtain ⟨e', b', z', hti⟩ : ∃ e' b' z', tt t = some (.slice e' m b' z') := by
        unfold sizeSl at hsz
        split at hsz
        · rename_i h1; subst hsz; exact ⟨_, _, _, h1⟩
        · omega
      obtain ⟨hu, _, _, ⟨ie, zv, hie, hsi, _⟩, _⟩ := htt t _ hti
      have fin : SVR g w (.p false [.c (.sl e m ((xs.take q).drop l))]) (.slice (if cap = l then A else A.map (·.add (l * m))) (q - l) (cap - l)) := by
        obtain ⟨A', L', rfl, s1, s2⟩ := h6.sub l (q - l) cap h5 (by omega) h2
        obtain ⟨M1, r1, r2⟩ := h7.take q
        obtain ⟨M2, r3, r4⟩ := r1.drop l
        have hlen : ((xs.take q).drop l).length = q - l := by simp; omega
        have e1 : (cs.drop (l * m)).take ((q - l) * m) = (cs.take (q * m)).drop (l * m) := by
          rw [List.drop_take, Nat.sub_mul]
        rw [e1] at s1
        refine ⟨_, rfl, L' ++ M2, ⟨_, _, _, L', M2, by rw [hlen], by rw [hlen]; omega, by omega, rfl, h5, by rw [hlen]; exact s1, r3⟩, fun b mb => ?_⟩
        rcases List.mem_append.1 mb with mb | mb
        · exact ho b (by simp [s2 b mb])
        · exact ho b (by simp [r2 b (r4 b mb)])
      refine ⟨_, ?_, fin, svU_c _⟩
      simp [Instr.sliceAt, run_und hu, Instr.slice, b1, run_size hie, hsi]
    · simp at h
  · simp at h
end
end Go.Proofs.Ytfbonanbiblkbaa

namespace Go.Proofs.Ytfbonanbiblkbaa
open Go.RowKit
theorem upd_same {α : Type} (f : Nat → α) (k : Nat) (v : α) : upd f k v k = v := by simp [upd]
theorem upd_ne {α : Type} (f : Nat → α) {k j : Nat} (v : α) (h : j ≠ k) : upd f k v j = f j := by simp [upd, h]
theorem updAll_append (ob : Nat → Ob) (u v : List (Nat × Ob)) : updAll ob (u ++ v) = updAll (updAll ob u) v := by
  induction u generalizing ob with
  | nil => rfl
  | cons p r ih => exact ih _
theorem updAll_gone : ∀ (ks : List Nat) (ob : Nat → Ob) (k : Nat), updAll ob (goneAll ks) k = if k ∈ ks then .gone else ob k
  | [], ob, k => by simp [goneAll, updAll]
  | x :: ks, ob, k => by
    have : goneAll (x :: ks) = (x, Ob.gone) :: goneAll ks := rfl
    rw [this, updAll, updAll_gone ks]
    by_cases h1 : k ∈ ks
    · simp [h1]
    · by_cases h2 : k = x
      · subst h2; simp [upd]
      · simp [h1, h2, upd]
theorem updAll_turn (ks : List Nat) (ob : Nat → Ob) (key : Nat) (o : Ob) (k : Nat) : updAll ob (goneAll ks ++ [(key, o)]) k = if k = key then o else if k ∈ ks then .gone else ob k := by
  rw [updAll_append]
  simp only [updAll, upd, updAll_gone]
def Gh.turn (g : Gh) (ks : List Nat) (key : Nat) (v : Value) (O D : List Nat) : Gh :=
  ⟨upd g.val key v, fun k => if k = key then O else if k ∈ ks then [] else g.O k, fun k => if k = key then D else if k ∈ ks then [] else g.D k, g.Z⟩
section
variable {P : Program} {W : Base} {U : Nat → Prop} {key : Nat} {st : St} {g : Gh} {w w' : World} {a : Act} {tt : Nat → Option TI}
theorem turn_own {ks : List Nat} {v : Value} {O D : List Nat} {b : Nat} (h : (g.turn ks key v O D).own b) : b ∈ O ∨ (∃ k, k ∉ ks ∧ k ≠ key ∧ b ∈ g.O k) ∨ g.Z b := by
  rcases h with ⟨k, hk⟩ | h
  · simp only [Gh.turn] at hk
    split at hk
    · exact .inl hk
    · rename_i h1
      split at hk
      · simp at hk
      · rename_i h2; exact .inr (.inl ⟨k, h2, h1, hk⟩)
  · exact .inr (.inr h)
theorem HI.turn {ob : Nat → Ob} (h : HI W g ob w) (hobU : ∀ k, obU U (ob k)) (hkey : ¬ U key) (ks : List Nat) (hks : ∀ k ∈ ks, U k)
    (hbel : Bel W w') (hsz : w.heap.size ≤ w'.heap.size) (hw : ∀ b, b < w.heap.size → (∀ k ∈ ks, b ∉ g.O k) → w'.heap[b]? = w.heap[b]?)
    {v : Value} {O D : List Nat} {o : Ob} (hO : ∀ b ∈ O, (∃ k ∈ ks, b ∈ g.O k) ∨ w.heap.size ≤ b) (hD : ∀ b ∈ D, (∃ k ∈ ks, b ∈ g.O k ++ g.D k) ∨ w.heap.size ≤ b)
    (hnd : (O ++ D).Nodup) (hpl : ∀ b ∈ O ++ D, (W.heap.size ≤ b ∨ W.x b) ∧ PlainAt w' o b)
    (hob : (∀ b, (g.turn ks key v O D).own b → g.own b ∨ w.heap.size ≤ b) → ObR (g.turn ks key v O D) w' key o) :
    HI W (g.turn ks key v O D) (updAll ob (goneAll ks ++ [(key, o)])) w' ∧ ∀ x u, svU U x → SVR g w x u → SVR (g.turn ks key v O D) w' x u := by
  have hkk : key ∉ ks := fun m => hkey (hks key m)
  have hval : ∀ k, U k → (g.turn ks key v O D).val k = g.val k := fun k hk => upd_ne _ _ fun e => hkey (e ▸ hk)
  have hown : ∀ b, (g.turn ks key v O D).own b → g.own b ∨ w.heap.size ≤ b := fun b hb => by
    rcases turn_own hb with m | ⟨k, _, _, m⟩ | m
    · rcases hO b m with ⟨k, _, m⟩ | m
      · exact .inl (.inl ⟨k, m⟩)
      · exact .inr m
    · exact .inl (.inl ⟨k, m⟩)
    · exact .inl (.inr m)
  have hFnew : ∀ b ∈ O ++ D, (∃ k ∈ ks, b ∈ g.O k ++ g.D k) ∨ w.heap.size ≤ b := fun b m => by
    rcases List.mem_append.1 m with m | m
    · exact (hO b m).imp (fun ⟨k, h1, h2⟩ => ⟨k, h1, by simp [h2]⟩) id
    · exact hD b m
  refine ⟨h.step (fun k => k = key ∨ k ∈ ks) hbel rfl (fun b hb hn => hw b hb fun k hk => hn k (.inr hk)) (fun k hk => ?_) hobU hval hown (fun k hk => ?_), fun x u hx hu => hu.move hx hval (fun b hb hn => hw b hb fun k _ m => hn (.inl ⟨k, m⟩)) hown hsz⟩
  · have h1 : k ≠ key := fun e => hk (.inl e)
    have h2 : k ∉ ks := fun e => hk (.inr e)
    rw [updAll_turn]
    simp [Gh.turn, h1, h2, upd]
  · rw [updAll_turn]
    by_cases h1 : k = key
    · subst h1
      have eO : (g.turn ks k v O D).O k = O := by simp [Gh.turn]
      have eD : (g.turn ks k v O D).D k = D := by simp [Gh.turn]
      rw [if_pos rfl, eO, eD]
      refine ⟨hob hown, hnd, hpl, fun j hj b m mj => ?_⟩
      have hjk : ¬ j = k := fun e => hj e.symm
      by_cases h2 : j ∈ ks
      · simp [Gh.turn, hjk, h2] at mj
      · have mj' : b ∈ g.O j ++ g.D j := by simpa [Gh.turn, hjk, h2] using mj
        rcases hFnew b m with ⟨q, q1, q2⟩ | q
        · exact h.apart q j (fun e => h2 (e ▸ q1)) b q2 mj'
        · have := h.lt j b mj'; omega
    · have h2 : k ∈ ks := hk.resolve_left h1
      have eO : (g.turn ks key v O D).O k = [] := by simp [Gh.turn, h1, h2]
      have eD : (g.turn ks key v O D).D k = [] := by simp [Gh.turn, h1, h2]
      rw [if_neg h1, if_pos h2, eO, eD]
      exact ⟨⟨eO, eD⟩, by simp, by simp, by simp⟩
theorem wf_turn (hU : StU U st) (ks : List Nat) {o : Ob} (ho : obU (Uk U key) o) : (∀ k, obU (Uk U key) (updAll st.ob (goneAll ks ++ [(key, o)]) k)) ∧ ∀ k, ¬ Uk U key k → updAll st.ob (goneAll ks ++ [(key, o)]) k = .gone := by
  constructor
  · intro k
    rw [updAll_turn]
    split
    · exact ho
    · split
      · trivial
      · exact (hU.ob k).mono fun _ => .inl
  · intro k hk
    rw [updAll_turn, if_neg (fun e => hk (.inr (by omega)))]
    split
    · rfl
    · exact hU.gone k fun h => hk (.inl h)
theorem key_in : Uk U key key := .inr (by omega)
/-- a new box -/
theorem box_ok (hI : HI W g st.ob w) (hU : StU U st) (hkey : ¬ U key) {t : TypeId} {cs : List AV} {vs : List Value} (hr : All2 (AVR g w) cs vs) (hu : avsU U cs) {s : Sem Next}
    (hrun : s.run P w = .ok (.value (.pointer (some ⟨w.heap.size, 0, none⟩))) (w.alloc (.cells vs.toArray t))) : Fin P W U key st g w s (.bp key 0, [(key, .box t cs)]) := by
  have hb : Below w.heap.size w (w.alloc (.cells vs.toArray t)) := (Below.refl _ _).alloc (Nat.le_refl _) _
  obtain ⟨h1, h2⟩ := hI.turn (key := key) (U := U) (w' := w.alloc (.cells vs.toArray t)) (v := .pointer (some ⟨w.heap.size, 0, none⟩)) (O := [w.heap.size]) (D := []) (o := .box t cs) hU.ob hkey [] (by simp)
    (hI.below.trans hb) hb.size (fun b hb' _ => hb.block b hb') (by simp) (by simp) (by simp) (fun b m => by
      simp at m; subst m; exact ⟨.inl hI.below.size, _, _, heap_alloc_new w _⟩) (fun hown => ⟨w.heap.size, vs, by simp [Gh.turn, upd], by simp [Gh.turn], by simp [Gh.turn], heap_alloc_new w _,
        AVRs.move hr hu (fun k hk => upd_ne _ _ fun e => hkey (e ▸ hk)) (fun b hb' _ => hb.block b hb') hown⟩)
  have hwf := wf_turn (key := key) (o := .box t cs) hU [] (avsU.mono (fun _ => .inl) hu)
  exact ⟨_, _, _, .inl hrun, h1, ⟨w.heap.size, by simp [Gh.turn, upd], rfl⟩, h2, key_in, hwf.1, hwf.2⟩
theorem setRow_ok (b : Nat) (cs cs' : Array Value) (t : TypeId) (hb : w.heap[b]? = some (.cells cs t (0, 0))) : (w.setRow b cs').heap[b]? = some (.cells cs' t (0, 0)) ∧ (∀ k, k ≠ b → (w.setRow b cs').heap[k]? = w.heap[k]?) ∧ (w.setRow b cs').heap.size = w.heap.size ∧ (w.setRow b cs').os = w.os ∧ (w.setRow b cs').tape = w.tape ∧ (w.setRow b cs').output = w.output := by
  refine ⟨setRow_heap w b cs cs' t _ hb, fun k hk => ?_, ?_, rfl, rfl, rfl⟩
  · have hbk : ¬ b = k := fun e => hk e.symm
    simp [World.setRow, Array.getElem?_modify, hbk]
  · simp [World.setRow]
/-- a store into a box -/
theorem store_bp (htt : ∀ t i, tt t = some i → TOk P t i) (hI : HI W g st.ob w) (hU : StU U st) {t k off tb : Nat} {cs vs : List AV} {va vv : Value} {ag : Bool} (hk : st.ob k = .box tb cs) (hl : vs.length = sizeTI (tt t)) (ho : off + vs.length ≤ cs.length)
    (ha : SVR g w (.bp k off) va) (hv : SVR g w (.p ag vs) vv) (hvu : avsU U vs) (hpos : 0 < vs.length) {s : Sem Next} (hs : s = (do Instr.storeAt t va vv; pure .skip)) : Fin P W U key st g w s (.und, [(k, .box tb (splice cs off vs))]) := by
  obtain ⟨b, h1, rfl⟩ := ha
  have hob := hI.obs k
  rw [hk] at hob
  obtain ⟨b', us, o1, o2, o3, o4, o5⟩ := hob
  have hb : b = b' := by rw [o1] at h1; simpa using h1.symm
  subst hb
  have hlen := o5.len
  obtain ⟨xs, c1, c2⟩ := PVR.cells hv
  have hxl := c2.len
  have hcu := hU.ob k
  rw [hk] at hcu
  obtain ⟨r1, r2, r3, r4, r5, r6⟩ := setRow_ok b us.toArray (splice us off xs).toArray tb o4
  have hsize : (sizeOf t).run P w = .ok xs.length w := by
    rw [← hxl, hl]
    unfold sizeTI at hl ⊢
    cases hti : tt t with
    | none => rw [hti] at hl; simp at hl; simp [hl] at hpos
    | some i =>
      cases i with
      | atom z => obtain ⟨d, zv, i, _, _, h3, _, h4, _⟩ := htt t _ hti; rw [run_size h3, h4]
      | strct fs n z => obtain ⟨_, i, _, _, h3, h4, _⟩ := htt t _ hti; rw [run_size h3, h4]
      | slice e m b z => obtain ⟨_, _, _, _, j, h3, h4, _⟩ := htt t _ hti; rw [run_size h3, h4]
      | _ => rw [hti] at hl; simp at hl; simp [hl] at hpos
  have hst := run_storeCells_at (P := P) b off tb xs 0 us.toArray w o4 (by simp; omega) (AVRs.one c2)
  have hrun : s.run P w = .ok .skip (w.setRow b (splice us off xs).toArray) := by
    subst hs
    have e : (us.toArray.toList.take (off + 0) ++ xs ++ us.toArray.toList.drop (off + 0 + xs.length)).toArray = (splice us off xs).toArray := by simp [splice]
    rw [e] at hst
    simp [Instr.storeAt, Instr.sureAddr, storeVar, c1, hsize, hst]
  have hmv : ∀ b', b' < w.heap.size → ¬ g.own b' → (w.setRow b (splice us off xs).toArray).heap[b']? = w.heap[b']? := fun b' _ hn => r2 b' fun e => hn (.inl ⟨k, by simp [o2, e]⟩)
  have hbW : W.heap.size ≤ b ∨ W.x b := (hI.plain k b (by simp [o2])).1
  refine ⟨g, undef, _, .inr ⟨hrun, rfl⟩, ?_, rfl, fun x u hx hu => hu.move hx (fun _ _ => rfl) hmv (fun _ h => .inl h) (by omega), trivial, fun q => ?_, fun q hq => ?_⟩
  · refine hI.step (U := U) (fun q => q = k) ?_ rfl (fun b' _ hn => r2 b' fun e => hn k rfl (by simp [o2, e])) (fun q hq => ⟨upd_ne _ _ hq, rfl, rfl, rfl⟩) hU.ob (fun _ _ => rfl) (fun _ h => .inl h) (fun q hq => ?_)
    · exact ⟨r4.trans hI.below.os, r5.trans hI.below.tape, r6.trans hI.below.output, by have := hI.below.size; omega, fun q hq hx => by rw [r2 q (fun e => by subst e; rcases hbW with h | h; omega; exact hx h)]; exact hI.below.block q hq hx⟩
    · subst hq
      refine ⟨?_, hI.nodup q, fun b' m => ?_, hI.apart q⟩
      · simp only [updAll, upd_same]
        exact ⟨b, _, o1, o2, o3, r1, (AVRs.move o5 hcu (fun _ _ => rfl) hmv (fun _ h => .inl h)).splice (AVRs.move c2 hvu (fun _ _ => rfl) hmv (fun _ h => .inl h)) off⟩
      · simp [o2, o3] at m
        subst m
        refine ⟨hbW, ?_⟩
        simp only [updAll, upd_same]
        exact ⟨_, _, r1⟩
  · simp only [updAll, upd]
    split
    · exact avsU.mono (fun _ => .inl) (avsU_splice hcu hvu off)
    · exact (hU.ob q).mono fun _ => .inl
  · simp only [updAll, upd]
    split
    · rename_i e; subst e
      exact absurd (hU.gone q fun h => hq (.inl h)) (by simp [hk])
    · exact hU.gone q fun h => hq (.inl h)
end
end Go.Proofs.Ytfbonanbiblkbaa

namespace Go.Proofs.Ytfbonanbiblkbaa
open Go.RowKit
section
variable {P : Program} {W : Base} {U : Nat → Prop} {key : Nat} {st : St} {g : Gh} {w w' : World} {a : Act} {tt : Nat → Option TI}
/-- the blocks of what was used up -/
def Gh.F (g : Gh) (ks : List Nat) : List Nat := ks.flatMap fun k => g.O k ++ g.D k
def FP (g : Gh) (ks : List Nat) (d : Nat) (L : List Nat) : Prop := (d = 2 → L.Sublist (g.F ks)) ∧ d ≤ 2 ∧ 0 < d ∧ ∀ b ∈ L, ¬ g.own b ∨ ∃ k ∈ ks, b ∈ g.O k
theorem FP.nil : FP g [] 2 [] := ⟨fun _ => by simp [Gh.F], by simp⟩
theorem FP.append {ks ks' : List Nat} {d d' : Nat} {L L' : List Nat} (h : FP g ks d L) (h' : FP g ks' d' L') : FP g (ks ++ ks') (dmin d d') (L ++ L') := by
  have q1 := h.2.1
  have q2 := h'.2.1
  have q3 := h.2.2.1
  have q4 := h'.2.2.1
  refine ⟨fun hd => ?_, by unfold dmin; split <;> omega, by unfold dmin; split <;> omega, fun b m => ?_⟩
  · have hd' : d = 2 ∧ d' = 2 := by unfold dmin at hd; split at hd <;> omega
    simp only [Gh.F, List.flatMap_append]
    exact List.Sublist.append (h.1 hd'.1) (h'.1 hd'.2)
  · rcases List.mem_append.1 m with m | m
    · exact (h.2.2.2 b m).imp id fun ⟨k, h1, h2⟩ => ⟨k, by simp [h1], h2⟩
    · exact (h'.2.2.2 b m).imp id fun ⟨k, h1, h2⟩ => ⟨k, by simp [h1], h2⟩
theorem HI.nodupF {ob : Nat → Ob} (hI : HI W g ob w) : ∀ {ks : List Nat}, ks.Nodup → (g.F ks).Nodup
  | [], _ => by simp [Gh.F]
  | k :: ks, h => by
    simp only [Gh.F, List.flatMap_cons, List.nodup_append]
    rw [List.nodup_cons] at h
    refine ⟨List.nodup_append.1 (hI.nodup k), hI.nodupF h.2, fun x hx y hy e => ?_⟩
    subst e
    obtain ⟨j, hj, hy⟩ := List.mem_flatMap.1 hy
    exact hI.apart k j (fun e => h.1 (e ▸ hj)) x hx hy
theorem mem_F {ks : List Nat} {b : Nat} (h : b ∈ g.F ks) : ∃ k ∈ ks, b ∈ g.O k ++ g.D k := by simpa [Gh.F] using h
theorem Sl.row {B e m n : Nat} {v : Value} {cs : List Value} (h : w.ownsRow B e m v n cs) : ∃ A cap L0, v = .slice A n cap ∧ n ≤ cap ∧ cap ≤ maxLen ∧ Sl w m A n cs L0 ∧ L0.Sublist v.ownBlock.toList := by
  obtain ⟨A, cap, rfl, h1, h2⟩ := own_slice h
  obtain ⟨L0, h3, _, h4⟩ := Sl.of_own h
  refine ⟨A, cap, L0, rfl, h1, h2, h3, ?_⟩
  rcases h3.2 with ⟨_, rfl⟩ | ⟨_, b, off, rfl, rfl, _⟩
  · exact List.nil_sublist _
  · simp [Value.ownBlock]
theorem avT_ok (hI : HI W g st.ob w) {x : AV} {ct : CT} {ks : List Nat} {d : Nat} {v : Value} (h : avT st x = some (ct, ks, d)) (hx : AVR g w x v) (hu : avU U x) : ∃ L, RC w ct v L ∧ FP g ks d L ∧ ∀ k ∈ ks, U k := by
  cases x with
  | c y =>
    obtain ⟨L, h1, h2⟩ := hx
    cases y <;> simp only [avT, Option.some.injEq, Prod.mk.injEq] at h <;> obtain ⟨rfl, rfl, rfl⟩ := h
    · exact ⟨L, h1, ⟨fun _ => by rw [h1.2]; simp [Gh.F], by simp, by simp, fun b m => .inl (h2 b m)⟩, by simp⟩
    · exact ⟨L, h1, ⟨fun _ => by rw [h1.2]; simp [Gh.F], by simp, by simp, fun b m => .inl (h2 b m)⟩, by simp⟩
    · exact ⟨L, h1, ⟨fun _ => by rw [h1.2.1]; simp [Gh.F], by simp, by simp, fun b m => .inl (h2 b m)⟩, by simp⟩
    all_goals exact ⟨L, h1, ⟨fun e => by simp at e, by simp, by simp, fun b m => .inl (h2 b m)⟩, by simp⟩
  | row k =>
    simp only [avT] at h
    split at h
    · rename_i e m xs d' hk
      obtain ⟨hm, cs, L1, o1, o2, o3, o5⟩ := hI.deep hk
      obtain ⟨A, cap, L0, s1, s2, s3, s4, s5⟩ := Sl.row o1
      have hrc : RC w (.sl e m xs) v (L0 ++ L1) := ⟨A, cap, cs, L0, L1, by rw [hx.1, s1], s2, s3, rfl, hm, s4, o2⟩
      split at h
      · rename_i hd0
        simp only [Option.some.injEq, Prod.mk.injEq] at h
        obtain ⟨rfl, rfl, rfl⟩ := h
        refine ⟨L0 ++ L1, hrc, ⟨fun e => by simp at e, by simp, by simp, fun b m => .inl ?_⟩, by simp⟩
        rcases o5 with ⟨q, _⟩ | ⟨q, _⟩ | ⟨_, _, _, q⟩
        · omega
        · omega
        · rcases List.mem_append.1 m with m | m
          · exact q b (s5.subset m)
          · exact o3 b m
      · rename_i hd0
        simp only [Option.some.injEq, Prod.mk.injEq] at h
        obtain ⟨rfl, rfl, rfl⟩ := h
        have hO : g.O k = (g.val k).ownBlock.toList := by
          rcases o5 with ⟨_, q, _⟩ | ⟨_, q, _⟩ | ⟨q, _⟩
          · exact q
          · exact q
          · exact absurd q hd0
        refine ⟨L0 ++ L1, hrc, ⟨fun hd => ?_, ?_, by omega, fun b m => ?_⟩, fun q mq => by simp at mq; subst mq; exact hu⟩
        · rcases o5 with ⟨_, _, o5⟩ | ⟨o5, _⟩ | ⟨o5, _⟩
          · simp only [Gh.F, List.flatMap_cons, List.flatMap_nil, List.append_nil, hO, o5]
            exact List.Sublist.append s5 (List.Sublist.refl _)
          · omega
          · omega
        · rcases o5 with ⟨o5, _⟩ | ⟨o5, _⟩ | ⟨o5, _⟩ <;> omega
        · rcases List.mem_append.1 m with m | m
          · exact .inr ⟨k, by simp, by rw [hO]; exact s5.subset m⟩
          · exact .inl (o3 b m)
    · simp at h
  | nil e m =>
    simp only [avT] at h
    split at h
    · rename_i hm
      simp only [Option.some.injEq, Prod.mk.injEq] at h
      obtain ⟨rfl, rfl, rfl⟩ := h
      refine ⟨[], ⟨none, 0, [], [], [], hx, by simp, Nat.zero_le _, rfl, hm, Sl.zero, rfl, rfl⟩, FP.nil, by simp⟩
    · simp at h
  | dead => simp [avT] at h
theorem avTs_ok (hI : HI W g st.ob w) : ∀ {xs : List AV} {cts : List CT} {ks : List Nat} {d : Nat} {vs : List Value}, avTs st xs = some (cts, ks, d) → All2 (AVR g w) xs vs → avsU U xs → ∃ L, RCs w cts vs L ∧ FP g ks d L ∧ ∀ k ∈ ks, U k
  | [], _, _, _, [], h, _, _ => by
    simp only [avTs, Option.some.injEq, Prod.mk.injEq] at h
    obtain ⟨rfl, rfl, rfl⟩ := h
    exact ⟨[], ⟨rfl, rfl⟩, FP.nil, by simp⟩
  | [], _, _, _, _ :: _, _, h, _ => h.elim
  | _ :: _, _, _, _, [], _, h, _ => h.elim
  | x :: r, cts, ks, d, v :: vs, h, hr, hu => by
    simp only [avTs] at h
    obtain ⟨⟨c1, k1, d1⟩, h1, h⟩ := Option.bind_eq_some_iff.1 h
    obtain ⟨⟨c2, k2, d2⟩, h2, h⟩ := Option.map_eq_some_iff.1 h
    simp only [Prod.mk.injEq] at h
    obtain ⟨rfl, rfl, rfl⟩ := h
    obtain ⟨L1, a1, a2, a3⟩ := avT_ok hI h1 hr.1 (hu x (by simp))
    obtain ⟨L2, b1, b2, b3⟩ := avTs_ok hI h2 hr.2 (fun y m => hu y (by simp [m]))
    exact ⟨L1 ++ L2, ⟨v, vs, L1, L2, rfl, rfl, a1, b1⟩, a2.append b2, fun k m => (List.mem_append.1 m).elim (a3 k) (b3 k)⟩
theorem elems_ok (hI : HI W g st.ob w) {m : Nat} : ∀ {xs : List SV} {es : List (List CT)} {ks : List Nat} {d : Nat} {vs : List Value}, elemsS st m xs = some (es, ks, d) → All2 (fun s v => SVR g w s v ∧ svU U s) xs vs →
    ∃ (cs : List (List Value)) (L : List Nat), All2 (fun (c : List Value) (v : Value) => v.cells = c.toArray ∧ c.length = m ∧ ∀ u ∈ c, u.oneCell' = true) cs vs ∧ REs w m es cs.flatten L ∧ FP g ks d L ∧ ∀ k ∈ ks, U k
  | [], _, _, _, [], h, _ => by
    simp only [elemsS, Option.some.injEq, Prod.mk.injEq] at h
    obtain ⟨rfl, rfl, rfl⟩ := h
    exact ⟨[], [], trivial, ⟨rfl, rfl⟩, FP.nil, by simp⟩
  | [], _, _, _, _ :: _, _, h => h.elim
  | _ :: _, _, _, _, [], _, h => h.elim
  | s :: r, es, ks, d, v :: vs, h, ⟨⟨hs, hsu⟩, hr⟩ => by
    cases s with
    | p ag us =>
      simp only [elemsS] at h
      split at h
      · rename_i hl
        obtain ⟨⟨c1, k1, d1⟩, h1, h⟩ := Option.bind_eq_some_iff.1 h
        obtain ⟨⟨c2, k2, d2⟩, h2, h⟩ := Option.map_eq_some_iff.1 h
        simp only [Prod.mk.injEq] at h
        obtain ⟨rfl, rfl, rfl⟩ := h
        obtain ⟨us', p1, p2⟩ := PVR.cells hs
        obtain ⟨L1, a1, a2, a3⟩ := avTs_ok hI h1 p2 hsu
        obtain ⟨cs, L2, b1, b2, b3, b4⟩ := elems_ok hI h2 hr
        have hl' : us'.length = m := by rw [← p2.len]; exact hl
        exact ⟨us' :: cs, L1 ++ L2, ⟨⟨p1, hl', AVRs.one p2⟩, b1⟩, ⟨us', cs.flatten, L1, L2, by simp, rfl, ⟨a1, hl'⟩, b2⟩, a2.append b3, fun k mk => (List.mem_append.1 mk).elim (a3 k) (b4 k)⟩
      · simp at h
    | _ => simp [elemsS] at h
/-- filling a row place by place -/
theorem fill_seq {m : Nat} : ∀ (cs : List (List Value)) (vs : List Value) (i : Nat) (pre base : List Value), All2 (fun (c : List Value) (v : Value) => v.cells = c.toArray ∧ c.length = m ∧ ∀ u ∈ c, u.oneCell' = true) cs vs → pre.length = i * m → base.length = vs.length * m →
    Instr.fill (fun i => some (i * m, m)) (pre ++ base).toArray ((List.range' i vs.length).zip vs) = some (pre ++ cs.flatten).toArray
  | [], [], i, pre, base, _, _, hb => by
    have : base = [] := List.eq_nil_of_length_eq_zero (by simpa using hb)
    subst this
    simp [Instr.fill]
  | [], _ :: _, _, _, _, h, _, _ => h.elim
  | _ :: _, [], _, _, _, h, _, _ => h.elim
  | c :: cs, v :: vs, i, pre, base, ⟨⟨h1, h2, _⟩, h⟩, hp, hb => by
    have hb' : base.length = m + vs.length * m := by rw [hb]; simp [Nat.add_mul]; omega
    have hcs : v.cells.size = m := by simp [h1, h2]
    simp only [List.length_cons, List.range'_succ, List.zip_cons_cons, Instr.fill]
    rw [if_neg (by simp [hcs]; omega), fold_cells (i * m) v c h1 _ (by simp; omega)]
    have e : splice (pre ++ base).toArray.toList (i * m) c = (pre ++ c) ++ base.drop m := by
      unfold splice
      simp only [← hp]
      rw [List.take_left', List.drop_append, List.drop_of_length_le (by omega)]
      · simp [h2]
      · rfl
    rw [e, fill_seq cs vs (i + 1) (pre ++ c) (base.drop m) h (by simp [hp, h2, Nat.add_mul]) (by simp; omega)]
    simp
theorem newRow_ok (hI : HI W g st.ob w) (hU : StU U st) (hkey : ¬ U key) {e m : Nat} (hm : 0 < m) {xs : List (List CT)} {ks : List Nat} {d : Nat} {L : List Nat} {cs : List Value} {v : Value} (hown : w'.ownsRow 0 e m v xs.length cs) (hv : v.ownBlock = some w.heap.size)
    (hb : Below w.heap.size w w') (hpl : ∃ cur e, w'.heap[w.heap.size]? = some (.cells cur e (0, 0))) (hr : REs w m xs cs L) (hf : FP g ks d L) (hks : ∀ k ∈ ks, U k) (hrow : ∀ k ∈ ks, ∃ e m xs d, st.ob k = .row e m xs d) (hnd : ks.Nodup) {s : Sem Next} (hrun : s.run P w = .ok (.value v) w') :
    Fin P W U key st g w s (.p false [.row key], goneAll ks ++ [(key, .row e m xs d)]) := by
  have hlt := hr.lt
  have hF := hI.nodupF hnd
  have hDmem : ∀ b ∈ (if d = 2 then L else []), b ∈ L ∧ d = 2 := fun b mb => by
    split at mb
    · rename_i hd; exact ⟨mb, hd⟩
    · simp at mb
  obtain ⟨h1, h2⟩ := hI.turn (key := key) (U := U) (w' := w') (v := v) (O := [w.heap.size]) (D := if d = 2 then L else []) (o := .row e m xs d) hU.ob hkey ks hks
    (hI.below.trans hb) hb.size (fun b hb' _ => hb.block b hb') (by simp) (fun b mb => by
      obtain ⟨m1, m2⟩ := hDmem b mb
      exact .inl (mem_F ((hf.1 m2).subset m1)))
    (by
      simp only [List.singleton_append, List.nodup_cons]
      refine ⟨fun mb => ?_, ?_⟩
      · have := hlt _ (hDmem _ mb).1; omega
      · split
        · rename_i hd; exact hF.sublist (hf.1 hd)
        · simp)
    (fun b mb => by
      simp only [List.singleton_append, List.mem_cons] at mb
      rcases mb with rfl | mb
      · exact ⟨.inl hI.below.size, hpl⟩
      · obtain ⟨m1, m2⟩ := hDmem b mb
        obtain ⟨k, k1, mk⟩ := mem_F ((hf.1 m2).subset m1)
        obtain ⟨p1, p2⟩ := hI.plain k b mk
        obtain ⟨_, _, _, _, hob⟩ := hrow k k1
        rw [hob] at p2
        exact ⟨p1, p2.keep (hb.block b (hlt b m1))⟩)
    (fun _ => ⟨hm, cs, L, by simpa [Gh.turn, upd] using hown, hr.keep fun b mb => hb.block b (hlt b mb), by
      have q1 := hf.2.1
      have q2 := hf.2.2.1
      by_cases hd : d = 2
      · exact .inl ⟨hd, by simp [Gh.turn, upd, hv], by simp [Gh.turn, hd]⟩
      · refine .inr (.inl ⟨by omega, by simp [Gh.turn, upd, hv], by simp [Gh.turn, hd], fun b mb ho => ?_⟩)
        have hb' := hlt b mb
        rcases turn_own ho with mo | ⟨k, k1, _, mk⟩ | hz
        · simp at mo; omega
        · rcases hf.2.2.2 b mb with hn | ⟨q, q1, q2⟩
          · exact hn (.inl ⟨k, mk⟩)
          · exact hI.apart k q (fun e => k1 (e ▸ q1)) b (by simp [mk]) (by simp [q2])
        · rcases hf.2.2.2 b mb with hn | ⟨q, q1, q2⟩
          · exact hn (.inr hz)
          · exact hI.nz (k := q) (by simp [q2]) hz⟩)
  have hwf := wf_turn (key := key) (o := .row e m xs d) hU ks trivial
  refine ⟨_, _, _, .inl hrun, h1, ⟨_, rfl, ⟨by simp [Gh.turn, upd], ?_⟩⟩, h2, fun y my => by simp at my; subst my; exact key_in, hwf.1, hwf.2⟩
  obtain ⟨A, cap, hv'⟩ := own_val hown
  simp [hv', Value.oneCell']
theorem updAll_frz (st : St) : ∀ (ks : List Nat) (ob : Nat → Ob) (k : Nat), updAll ob (frzAll st ks) k = if k ∈ ks then frzOb (st.ob k) else ob k
  | [], ob, k => by simp [frzAll, updAll]
  | j :: r, ob, k => by
    show updAll (upd ob j (frzOb (st.ob j))) (frzAll st r) k = _
    rw [updAll_frz st r]
    by_cases h : k ∈ r
    · simp [h]
    · by_cases hj : k = j
      · subst hj; simp [h, upd]
      · simp [h, hj, upd]
theorem updAll_turnF (st : St) (ks : List Nat) (ob : Nat → Ob) (key : Nat) (o : Ob) (k : Nat) : updAll ob (frzAll st ks ++ [(key, o)]) k = if k = key then o else if k ∈ ks then frzOb (st.ob k) else ob k := by
  rw [updAll_append]
  show upd (updAll ob (frzAll st ks)) key o k = _
  by_cases h : k = key
  · simp [upd, h]
  · simp only [upd, h, if_false]; exact updAll_frz st ks ob k
theorem avT_keys {x : AV} {ct : CT} {ks : List Nat} {d : Nat} (h : avT st x = some (ct, ks, d)) : ∀ k ∈ ks, ∃ e m xs d, st.ob k = .row e m xs d := by
  intro k mk
  cases x with
  | c y => cases y <;> simp only [avT, Option.some.injEq, Prod.mk.injEq] at h <;> (rw [← h.2.1] at mk; simp at mk)
  | nil e m =>
    simp only [avT] at h
    split at h <;> simp only [Option.some.injEq, Prod.mk.injEq, reduceCtorEq] at h
    rw [← h.2.1] at mk; simp at mk
  | row j =>
    simp only [avT] at h
    split at h
    · rename_i e m xs d' hj
      split at h <;> simp only [Option.some.injEq, Prod.mk.injEq] at h
      · rw [← h.2.1] at mk; simp at mk
      · rw [← h.2.1] at mk; simp at mk; subst mk; exact ⟨_, _, _, _, hj⟩
    · simp at h
  | dead => simp [avT] at h
theorem avTs_keys : ∀ {xs : List AV} {cts : List CT} {ks : List Nat} {d : Nat}, avTs st xs = some (cts, ks, d) → ∀ k ∈ ks, ∃ e m xs d, st.ob k = .row e m xs d
  | [], _, _, _, h, k, mk => by simp only [avTs, Option.some.injEq, Prod.mk.injEq] at h; rw [← h.2.1] at mk; simp at mk
  | x :: r, _, _, _, h, k, mk => by
    simp only [avTs] at h
    obtain ⟨⟨c1, k1, d1⟩, h1, h⟩ := Option.bind_eq_some_iff.1 h
    obtain ⟨⟨c2, k2, d2⟩, h2, h⟩ := Option.map_eq_some_iff.1 h
    simp only [Prod.mk.injEq] at h
    rw [← h.2.1] at mk
    rcases List.mem_append.1 mk with mk | mk
    · exact avT_keys h1 k mk
    · exact avTs_keys h2 k mk
theorem elemsS_keys {m : Nat} : ∀ {xs : List SV} {es : List (List CT)} {ks : List Nat} {d : Nat}, elemsS st m xs = some (es, ks, d) → ∀ k ∈ ks, ∃ e m xs d, st.ob k = .row e m xs d
  | [], _, _, _, h, k, mk => by simp only [elemsS, Option.some.injEq, Prod.mk.injEq] at h; rw [← h.2.1] at mk; simp at mk
  | x :: r, _, _, _, h, k, mk => by
    cases x with
    | p a cs =>
      simp only [elemsS] at h
      split at h
      · obtain ⟨⟨c1, k1, d1⟩, h1, h⟩ := Option.bind_eq_some_iff.1 h
        obtain ⟨⟨c2, k2, d2⟩, h2, h⟩ := Option.map_eq_some_iff.1 h
        simp only [Prod.mk.injEq] at h
        rw [← h.2.1] at mk
        rcases List.mem_append.1 mk with mk | mk
        · exact avTs_keys h1 k mk
        · exact elemsS_keys h2 k mk
      · simp at h
    | _ => simp [elemsS] at h
/-- the same, where the rows that the new one takes up are still read -/
theorem newRow_frz (hI : HI W g st.ob w) (hU : StU U st) (hkey : ¬ U key) {e m : Nat} (hm : 0 < m) {xs : List (List CT)} {ks : List Nat} {d : Nat} {L : List Nat} {cs : List Value} {v : Value} (hown : w'.ownsRow 0 e m v xs.length cs) (hv : v.ownBlock = some w.heap.size)
    (hb : Below w.heap.size w w') (hpl : ∃ cur e, w'.heap[w.heap.size]? = some (.cells cur e (0, 0))) (hr : REs w m xs cs L) (hf : FP g ks d L) (hks : ∀ k ∈ ks, U k) (hrow : ∀ k ∈ ks, ∃ e m xs d, st.ob k = .row e m xs d) (hnd : ks.Nodup) {s : Sem Next} (hrun : s.run P w = .ok (.value v) w') :
    Fin P W U key st g w s (.p false [.row key], frzAll st ks ++ [(key, .row e m xs d)]) := by
  have hlt := hr.lt
  have hF := hI.nodupF hnd
  have hDmem : ∀ b ∈ (if d = 2 then L else []), b ∈ L ∧ d = 2 := fun b mb => by
    split at mb
    · rename_i hd; exact ⟨mb, hd⟩
    · simp at mb
  obtain ⟨h1, h2⟩ := hI.turn (key := key) (U := U) (w' := w') (v := v) (O := [w.heap.size]) (D := if d = 2 then L else []) (o := .row e m xs d) hU.ob hkey ks hks
    (hI.below.trans hb) hb.size (fun b hb' _ => hb.block b hb') (by simp) (fun b mb => by
      obtain ⟨m1, m2⟩ := hDmem b mb
      exact .inl (mem_F ((hf.1 m2).subset m1)))
    (by
      simp only [List.singleton_append, List.nodup_cons]
      refine ⟨fun mb => ?_, ?_⟩
      · have := hlt _ (hDmem _ mb).1; omega
      · split
        · rename_i hd; exact hF.sublist (hf.1 hd)
        · simp)
    (fun b mb => by
      simp only [List.singleton_append, List.mem_cons] at mb
      rcases mb with rfl | mb
      · exact ⟨.inl hI.below.size, hpl⟩
      · obtain ⟨m1, m2⟩ := hDmem b mb
        obtain ⟨k, k1, mk⟩ := mem_F ((hf.1 m2).subset m1)
        obtain ⟨p1, p2⟩ := hI.plain k b mk
        obtain ⟨_, _, _, _, hob⟩ := hrow k k1
        rw [hob] at p2
        exact ⟨p1, p2.keep (hb.block b (hlt b m1))⟩)
    (fun _ => ⟨hm, cs, L, by simpa [Gh.turn, upd] using hown, hr.keep fun b mb => hb.block b (hlt b mb), by
      have q1 := hf.2.1
      have q2 := hf.2.2.1
      by_cases hd : d = 2
      · exact .inl ⟨hd, by simp [Gh.turn, upd, hv], by simp [Gh.turn, hd]⟩
      · refine .inr (.inl ⟨by omega, by simp [Gh.turn, upd, hv], by simp [Gh.turn, hd], fun b mb ho => ?_⟩)
        have hb' := hlt b mb
        rcases turn_own ho with mo | ⟨k, k1, _, mk⟩ | hz
        · simp at mo; omega
        · rcases hf.2.2.2 b mb with hn | ⟨q, q1, q2⟩
          · exact hn (.inl ⟨k, mk⟩)
          · exact hI.apart k q (fun e => k1 (e ▸ q1)) b (by simp [mk]) (by simp [q2])
        · rcases hf.2.2.2 b mb with hn | ⟨q, q1, q2⟩
          · exact hn (.inr hz)
          · exact hI.nz (k := q) (by simp [q2]) hz⟩)
  have hkk : ∀ k ∈ ks, k ≠ key := fun k mk e => hkey (e ▸ hks k mk)
  have h1' : HI W (g.turn ks key v [w.heap.size] (if d = 2 then L else [])) (updAll st.ob (frzAll st ks ++ [(key, .row e m xs d)])) w' := by
    refine ⟨h1.below, fun k => ?_, h1.nodup, h1.apart, fun k b mb => ?_, h1.gz, h1.zx⟩
    rotate_left
    · have hp := h1.plain k b mb
      rw [updAll_turn] at hp
      rw [updAll_turnF]
      by_cases hk : k = key
      · rw [if_pos hk] at hp ⊢; exact hp
      · rw [if_neg hk] at hp ⊢
        by_cases hm' : k ∈ ks
        · rw [if_pos hm'] at hp ⊢
          obtain ⟨e2, m2, xs2, d2, hob⟩ := hrow k hm'
          rw [hob]
          exact hp
        · rw [if_neg hm'] at hp ⊢; exact hp
    have ho := h1.obs k
    rw [updAll_turn] at ho
    rw [updAll_turnF]
    by_cases hk : k = key
    · rw [if_pos hk] at ho ⊢; exact ho
    · rw [if_neg hk] at ho ⊢
      by_cases hm' : k ∈ ks
      · rw [if_pos hm'] at ho ⊢
        obtain ⟨e2, m2, xs2, d2, hob⟩ := hrow k hm'
        obtain ⟨p1, cs2, L2, p2, p3, p4, p5⟩ := hI.deep hob
        rw [hob]
        have hval : (g.turn ks key v [w.heap.size] (if d = 2 then L else [])).val k = g.val k := by simp [Gh.turn, upd, hk]
        have hl2 := p3.lt
        have hl1 := own_lt p2
        refine ⟨p1, cs2, L2, by rw [hval]; exact ownsRow_keep p2 fun b mb => hb.block b (hl1 b mb), p3.keep fun b mb => hb.block b (hl2 b mb), .inr (.inr ⟨rfl, ho.1, ho.2, fun b mb hob' => ?_⟩)⟩
        rw [hval] at mb
        have hbl : b < w.heap.size := by
          rcases List.mem_append.1 mb with m1 | m1
          · exact hl1 b m1
          · exact hl2 b m1
        rcases turn_own hob' with mo | ⟨j, j1, _, mj⟩ | hz
        · simp at mo; omega
        · rcases List.mem_append.1 mb with m1 | m1
          · rcases p5 with ⟨_, q1, _⟩ | ⟨_, q1, _⟩ | ⟨_, _, _, q⟩
            · exact hI.apart j k (fun e => j1 (e ▸ hm')) b (by simp [mj]) (by simp [q1, m1])
            · exact hI.apart j k (fun e => j1 (e ▸ hm')) b (by simp [mj]) (by simp [q1, m1])
            · exact q b m1 (.inl ⟨j, mj⟩)
          · exact p4 b m1 (.inl ⟨j, mj⟩)
        · rcases List.mem_append.1 mb with m1 | m1
          · rcases p5 with ⟨_, q1, _⟩ | ⟨_, q1, _⟩ | ⟨_, _, _, q⟩
            · exact hI.nz (k := k) (by simp [q1, m1]) hz
            · exact hI.nz (k := k) (by simp [q1, m1]) hz
            · exact q b m1 (.inr hz)
          · exact p4 b m1 (.inr hz)
      · rw [if_neg hm'] at ho ⊢; exact ho
  have hfz : ∀ k, obU U (frzOb (st.ob k)) := fun k => by
    have := hU.ob k
    cases hk : st.ob k <;> simp only [frzOb] <;> first | trivial | (rw [hk] at this; exact this)
  refine ⟨_, _, _, .inl hrun, h1', ⟨_, rfl, ⟨by simp [Gh.turn, upd], ?_⟩⟩, h2, fun y my => by simp at my; subst my; exact key_in, fun k => ?_, fun k hk => ?_⟩
  · obtain ⟨A, cap, hv'⟩ := own_val hown
    simp [hv', Value.oneCell']
  · rw [updAll_turnF]
    split
    · trivial
    · split
      · exact (hfz k).mono fun _ => .inl
      · exact (hU.ob k).mono fun _ => .inl
  · rw [updAll_turnF, if_neg (fun e => hk (.inr (by omega)))]
    have e := hU.gone k fun h => hk (.inl h)
    split
    · rw [e]; rfl
    · exact e
end
end Go.Proofs.Ytfbonanbiblkbaa

namespace Go.Proofs.Ytfbonanbiblkbaa
open Go.RowKit
theorem zip_range' {β : Type} : ∀ (is : List Nat) (vs : List β) (i : Nat), is = List.range' i vs.length → is.length = vs.length → (is.zip vs) = (List.range' i vs.length).zip vs
  | _, _, _, rfl, _ => rfl
section
variable {P : Program} {W : Base} {U : Nat → Prop} {key : Nat} {st : St} {g : Gh} {w w' : World} {a : Act} {tt : Nat → Option TI}
theorem bsl_ok (htt : ∀ t i, tt t = some i → TOk P t i) (hI : HI W g st.ob w) (hS : ∀ t, SVR g w (st.sl t) (a.tmps.getD t undef)) (hU : StU U st) (hkey : ¬ U key) {t len e m bytes : Nat} {z : List AV} (hti : tt t = some (.slice e m bytes z)) {parts : Array (Nat × Operand)} {xs : List (List CT)} {ks : List Nat} {d : Nat}
    (h : elemsS st m (parts.toList.map fun p => st.ev tt e p.2) = some (xs, ks, d)) (hr : parts.toList.map (·.1) = List.range len) (hl : len * m ≤ 16777216) (hnd : ks.Nodup) {s : Sem Next} (hs : s = (do pure (.value (← Instr.buildSlice t len (parts.map fun (i, x) => (i, a.eval x)))))) :
    Fin P W U key st g w s (.p false [.row key], frzAll st ks ++ [(key, .row e m xs d)]) := by
  obtain ⟨hu, hm, _, ⟨ie, zv, hie, hsz, hby, hz, hzc, hzl⟩, _⟩ := htt t _ hti
  have hall : All2 (fun s v => SVR g w s v ∧ svU U s) (parts.toList.map fun p => st.ev tt e p.2) (parts.toList.map fun p => a.eval p.2) := All2.of_map _ _ fun p _ => ev_ok htt hS hU e p.2
  obtain ⟨cs, L, c1, c2, c3, c4⟩ := elems_ok hI h hall
  have hlen : parts.toList.length = len := by have := congrArg List.length hr; simpa using this
  have hcl : cs.length = len := by rw [c1.len]; simpa using hlen
  have hxl : xs.length = len := by
    have h1 := c2.len
    have h2 : cs.flatten.length = len * m := by
      have : ∀ (cs : List (List Value)) (vs : List Value), All2 (fun (c : List Value) (v : Value) => v.cells = c.toArray ∧ c.length = m ∧ ∀ u ∈ c, u.oneCell' = true) cs vs → cs.flatten.length = cs.length * m := by
        intro cs
        induction cs with
        | nil => intro _ _; simp
        | cons c cs ih =>
          intro vs hh
          cases vs with
          | nil => exact hh.elim
          | cons v vs => simp [ih vs hh.2, hh.1.2.1, Nat.add_mul]; omega
      rw [this cs _ c1, hcl]
    rw [h2] at h1
    exact (Nat.eq_of_mul_eq_mul_right hm h1).symm
  have hparts : (parts.map fun x => match x with | (i, x) => (i, a.eval x)).toList = (List.range' 0 (parts.toList.map fun p => a.eval p.2).length).zip (parts.toList.map fun p => a.eval p.2) := by
    have e1 : (parts.map fun x => match x with | (i, x) => (i, a.eval x)).toList = (parts.toList.map (·.1)).zip (parts.toList.map fun p => a.eval p.2) := by
      rw [List.zip_map']; simp
    rw [e1, hr, List.range_eq_range']
    simp [hlen]
  have hrun : (Instr.buildSlice t len (parts.map fun (i, x) => (i, a.eval x))).run P w = .ok (.slice (some ⟨w.heap.size, 0, none⟩) len len) (w.alloc (.cells cs.flatten.toArray e)) := by
    have hcells : ∀ base : List Value, base.length = len * m → Instr.fill (fun i => some (i * m, m)) base.toArray (parts.map fun x => match x with | (i, x) => (i, a.eval x)).toList = some cs.flatten.toArray := fun base hb => by
      rw [hparts]
      have := fill_seq cs (parts.toList.map fun p => a.eval p.2) 0 [] base c1 (by simp) (by simpa [hlen] using hb)
      simpa using this
    by_cases h0 : len = 0
    · subst h0
      have hcs0 : cs = [] := List.eq_nil_of_length_eq_zero hcl
      subst hcs0
      have hp0 : parts = #[] := by
        have : parts.toList = [] := List.eq_nil_of_length_eq_zero hlen
        simpa using this
      subst hp0
      simp [Instr.buildSlice, run_und hu, run_size hie, Instr.fill, newRow, Array.range_zero']
    · have hpos : ¬ len * ie.size = 0 := by
        rw [hsz]; intro e; rcases Nat.mul_eq_zero.1 e with e | e <;> omega
      refine run_buildSlice w t e len _ _ ie zv hu hie hz (by rw [hsz]; omega) hpos ?_
      rw [hsz]
      have hb := hcells ((Array.range (len * m)).map (zv.cells[· % zv.cells.size]!)).toList (by simp)
      rw [Array.toArray_toList] at hb
      exact hb
  have hown := World.ownsRow_lit (base := 0) (e := e) (size := m) w cs.flatten.toArray len (Nat.zero_le _) (by unfold maxLen; have := Nat.le_mul_of_pos_right len hm; omega) (by
    have h1 := c2.len
    rw [hxl] at h1
    simpa using h1)
  refine newRow_frz hI hU hkey hm (v := .slice (some ⟨w.heap.size, 0, none⟩) len len) (cs := cs.flatten) (w' := w.alloc (.cells cs.flatten.toArray e)) (by rw [hxl]; simpa using hown) rfl ((Below.refl _ _).alloc (Nat.le_refl _) _) ⟨_, _, heap_alloc_new w _⟩ c2 c3 c4 (elemsS_keys h) hnd ?_
  subst hs
  simp only [Sem.run_bind, hrun, Result.andThen_ok, Sem.run_pure]
theorem REs_replicate {m : Nat} {ze : List CT} {zc : List Value} (h : RCs w ze zc []) (hl : zc.length = m) : ∀ n : Nat, REs w m (List.replicate n ze) (List.replicate n zc).flatten []
  | 0 => by simp [REs]
  | n + 1 => by
    rw [List.replicate_succ, List.replicate_succ, List.flatten_cons]
    exact ⟨zc, _, [], [], rfl, rfl, ⟨h, hl⟩, REs_replicate h hl n⟩
theorem zCTs_ok : ∀ {z : List AV} {zs : List Value} {ze : List CT}, zCTs z = some ze → All2 (fun a v => constB a v = true) z zs → RCs w ze zs []
  | [], [], ze, h, _ => by simp [zCTs] at h; subst h; exact ⟨rfl, rfl⟩
  | [], _ :: _, _, _, h => h.elim
  | _ :: _, [], _, _, h => h.elim
  | .c x :: z, v :: zs, ze, h, hr => by
    simp only [zCTs] at h
    obtain ⟨b, h1, rfl⟩ := Option.map_eq_some_iff.1 h
    have hx := const_AVR (g := ⟨fun _ => undef, fun _ => [], fun _ => [], fun _ => False⟩) (w := w) hr.1
    obtain ⟨L, hL, _⟩ := hx
    have hL0 : L = [] := by
      have := hr.1
      cases x with
      | int k n => exact hL.2
      | bool b => exact hL.2
      | str s => exact hL.2.1
      | _ => simp [constB] at this
    subst hL0
    exact ⟨v, zs, [], [], rfl, rfl, hL, zCTs_ok h1 hr.2⟩
  | .nil e m :: z, v :: zs, ze, h, hr => by
    simp only [zCTs] at h
    split at h
    · rename_i hm
      obtain ⟨b, h1, rfl⟩ := Option.map_eq_some_iff.1 h
      have hv : v = .slice none 0 0 := const_AVR (g := ⟨fun _ => undef, fun _ => [], fun _ => [], fun _ => False⟩) (w := w) hr.1
      subst hv
      exact ⟨_, zs, [], [], rfl, rfl, ⟨none, 0, [], [], [], rfl, by simp, Nat.zero_le _, rfl, hm, Sl.zero, rfl, rfl⟩, zCTs_ok h1 hr.2⟩
    · simp at h
  | .row k :: z, v :: zs, ze, h, _ => by simp [zCTs] at h
  | .dead :: z, v :: zs, ze, h, _ => by simp [zCTs] at h
theorem made_flat (z : Array Value) (m : Nat) (hz : z.size = m) (hm : 0 < m) : ∀ n : Nat, (madeCells z (n * m)).toList = (List.replicate n z.toList).flatten
  | 0 => by simp [madeCells]
  | n + 1 => by
    have ih := made_flat z m hz hm n
    rw [List.replicate_succ', List.flatten_append, ← ih]
    simp only [madeCells, Array.toList_map, Array.toList_range, Nat.add_mul, Nat.one_mul, List.range_add, List.map_append, List.map_map, List.flatten_cons, List.flatten_nil, List.append_nil]
    congr 1
    apply List.ext_getElem?
    intro j
    by_cases hj : j < m
    · simp only [List.getElem?_map, List.getElem?_range hj, Option.map_some, Function.comp]
      have e : (n * m + j) % z.size = j := by
        rw [hz, Nat.add_comm, Nat.add_mul_mod_self_right, Nat.mod_eq_of_lt hj]
      have hjz : j < z.size := by omega
      simp [e, hjz]
    · have h1 : z.size ≤ j := by omega
      simp [hj, h1]
theorem make_ok (htt : ∀ t i, tt t = some i → TOk P t i) (hI : HI W g st.ob w) (hU : StU U st) (hkey : ¬ U key) {t e m bytes : Nat} {z : List AV} (hti : tt t = some (.slice e m bytes z)) {n : Nat} {ze : List CT} (hz : zCTs z = some ze) (hn : n ≤ 1073741824) {s : Sem Next}
    (hs : s = (do pure (.value (← Instr.makeSlice t (.int .i64 n) (.int .i64 n))))) : Fin P W U key st g w s (.p false [.row key], [(key, .row e m (List.replicate n ze) 2)]) := by
  obtain ⟨hu, hm, hby0, ⟨ie, zv, hie, hsz, hby, hzz, hzc, hzl⟩, _⟩ := htt t _ hti
  have hb' : ie.bytes * n ≤ 281474976710656 := by
    have := Nat.mul_le_mul (show ie.bytes ≤ 131072 by omega) hn
    omega
  obtain ⟨w', r1, r2, r3⟩ := run_make_full (P := P) w 0 t e ie zv m hu hie hzz hsz .i64 .i64 n hb' (by unfold maxLen; omega) (Nat.zero_le _)
  have hzs : zv.cells.size = m := by rw [← hzl, hzc.len]; simp
  rw [made_flat zv.cells m hzs hm n] at r2
  have hre := REs_replicate (zCTs_ok (w := w) hz hzc) (by simpa using hzs) n
  have hb : Below w.heap.size w w' := (Below.refl _ _).grown r3 (Nat.le_refl _) (by simp)
  have hpl : ∃ cur e, w'.heap[w.heap.size]? = some (.cells cur e (0, 0)) := by
    rcases r2.2 with ⟨h', _⟩ | ⟨g', cap', cur, h', _, hg, _⟩
    · simp at h'
    · simp at h'
      rw [← h'.1] at hg
      exact ⟨cur, e, hg⟩
  have := newRow_ok (ks := []) (d := 2) hI hU hkey hm (xs := List.replicate n ze) (by simpa using r2) rfl hb hpl hre FP.nil (by simp) (by simp) (by simp) (s := s) (P := P) (by subst hs; simp only [Sem.run_bind, r1, Result.andThen_ok, Sem.run_pure])
  simpa [goneAll] using this
theorem append_none {t e : TypeId} {ty : TypeId} {ie : TypeInfo} (hu : P.underlying t = some (.slice e)) (hie : P.info? e = some ie) (A B : Option Addr) (n c c' : Nat) (hnc : n ≤ c) :
    (Builtin.append_ #[t, t] ty #[.slice A n c, .slice B 0 c']).run P w = .ok (.slice A n c) w := by
  cases A <;> cases B <;> simp [Builtin.append_, run_und hu, run_size hie, Builtin.lenOf, Builtin.firstCells, loadCells, loadCellsFrom, storeCells, hnc]
theorem RCs_flat : ∀ {e : List CT} {cs : List Value} {L : List Nat}, RCs w e cs L → e.all CT.flat = true → L = []
  | [], _, _, h, _ => h.2
  | x :: r, _, _, ⟨v, cs', L1, L2, rfl, rfl, h1, h2⟩, hf => by
    simp only [List.all_cons, Bool.and_eq_true] at hf
    have e1 : L1 = [] := by
      cases x with
      | int k n => exact h1.2
      | bool b => exact h1.2
      | str s => exact h1.2.1
      | _ => simp [CT.flat] at hf
    rw [e1, RCs_flat h2 hf.2]; rfl
theorem REs_flat {m : Nat} : ∀ {xs : List (List CT)} {cs : List Value} {L : List Nat}, REs w m xs cs L → flatEs xs = true → L = []
  | [], _, _, h, _ => h.2
  | x :: r, _, _, ⟨c1, c2, L1, L2, rfl, rfl, h1, h2⟩, hf => by
    simp only [flatEs, List.all_cons, Bool.and_eq_true] at hf
    rw [RCs_flat h1.1 hf.1, REs_flat h2 hf.2]; rfl
theorem REs.append {m : Nat} : ∀ {xs ys : List (List CT)} {us vs : List Value} {L M : List Nat}, REs w m xs us L → REs w m ys vs M → REs w m (xs ++ ys) (us ++ vs) (L ++ M)
  | [], _, _, _, _, _, h, h' => by obtain ⟨rfl, rfl⟩ := h; simpa using h'
  | _ :: _, _, _, _, _, _, ⟨c1, c2, L1, L2, rfl, rfl, h3, h4⟩, h' => ⟨c1, c2 ++ _, L1, L2 ++ _, by simp, by simp, h3, h4.append h'⟩
theorem REs.one {m : Nat} : ∀ {xs : List (List CT)} {cs : List Value} {L : List Nat}, REs w m xs cs L → ∀ u ∈ cs, u.oneCell' = true
  | [], _, _, h => by simp [h.1]
  | _ :: _, _, _, ⟨c1, c2, L1, L2, rfl, rfl, h3, h4⟩ => fun u mu => by
    rcases List.mem_append.1 mu with mu | mu
    · exact h3.1.one u mu
    · exact h4.one u mu
theorem dmin_two {a b : Nat} (h : dmin a b = 2) (ha : a ≤ 2) (hb : b ≤ 2) : a = 2 ∧ b = 2 := by unfold dmin at h; split at h <;> omega
theorem flatD_two {fl : Bool} {xs : List (List CT)} (h : flatD fl xs = 2) : flatEs xs = true := by unfold flatD at h; split at h <;> simp_all
theorem flatD_le (fl : Bool) (xs : List (List CT)) : flatD fl xs ≤ 2 := by unfold flatD; split <;> omega
theorem flatD_pos (fl : Bool) (xs : List (List CT)) : 0 < flatD fl xs := by unfold flatD; split <;> omega
/-- what is appended to -/
theorem HI.plainD {ob : Nat → Ob} (h : HI W g ob w) {k b : Nat} (m : b ∈ g.D k) : (W.heap.size ≤ b ∨ W.x b) ∧ ∃ cur e, w.heap[b]? = some (.cells cur e (0, 0)) := by
  have h1 := h.plain k b (by simp [m])
  have h2 := h.obs k
  cases hk : ob k with
  | map kk vk kv =>
    rw [hk] at h2
    obtain ⟨_, _, _, _, _, h3, _⟩ := h2
    rw [h3] at m; simp at m
  | _ => rw [hk] at h1; exact h1
theorem dst_ok (hI : HI W g st.ob w) {x : SV} {v : Value} {e m : Nat} {xs : List (List CT)} {ks : List Nat} {d : Nat} (h : appDst st x = some (xs, ks, d)) (hok : dstOk st e m x = true) (hx : SVR g w x v) (hu : svU U x) :
    ∃ cs L, w.ownsRow 0 e m v xs.length cs ∧ REs w m xs cs L ∧ (∀ b ∈ L, ¬ g.own b) ∧ (d = 2 → L = ks.flatMap g.D) ∧ v.ownBlock.toList = ks.flatMap g.O ∧ (∀ k ∈ ks, U k) ∧ d ≤ 2 ∧ 0 < d := by
  unfold appDst at h
  split at h
  · simp only [Option.some.injEq, Prod.mk.injEq] at h
    obtain ⟨rfl, rfl, rfl⟩ := h
    have := nil_of hx
    subst this
    exact ⟨[], [], World.ownsRow_nil _ _ _ _, ⟨rfl, rfl⟩, by simp, by simp, by simp [Value.ownBlock], by simp, by simp, by simp⟩
  · rename_i k
    split at h
    · rename_i e' m' xs' d' hk
      split at h
      · simp at h
      rename_i hd0
      simp only [Option.some.injEq, Prod.mk.injEq] at h
      obtain ⟨rfl, rfl, rfl⟩ := h
      simp only [dstOk, hk, Bool.and_eq_true, beq_iff_eq] at hok
      obtain ⟨rfl, rfl⟩ := hok
      have := row_of hx
      subst this
      obtain ⟨hm, cs, L, o1, o2, o3, o4, o5⟩ := hI.deepO hk hd0
      refine ⟨cs, L, o1, o2, o3, fun hd => ?_, by simp [o4], fun q mq => by simp at mq; subst mq; exact hu (.row q) (by simp), ?_, by omega⟩
      · rcases o5 with ⟨_, o5⟩ | ⟨o5, _⟩
        · simp [o5]
        · omega
      · rcases o5 with ⟨o5, _⟩ | ⟨o5, _⟩ <;> omega
    · simp at h
  · simp at h
/-- what is appended -/
theorem src_ok (hI : HI W g st.ob w) {x : SV} {v : Value} {m : Nat} {xs : List (List CT)} {ks : List Nat} {d : Nat} {fl : Bool} (h : appSrc st fl x = some (xs, ks, d)) (hok : srcOk st m x = true) (hx : SVR g w x v) (hu : svU U x) :
    ∃ A c cs L, v = .slice A xs.length c ∧ REs w m xs cs L ∧ (0 < xs.length → ∃ b off, A = some ⟨b, off, none⟩ ∧ CellsAt w b off cs) ∧ (∀ b ∈ L, ¬ g.own b) ∧ (d = 2 → L.Sublist (ks.flatMap g.D)) ∧ (∀ k ∈ ks, U k) ∧ d ≤ 2 ∧ 0 < d := by
  unfold appSrc at h
  split at h
  · simp only [Option.some.injEq, Prod.mk.injEq] at h
    obtain ⟨rfl, rfl, rfl⟩ := h
    simp only [srcOk, beq_iff_eq] at hok
    subst hok
    obtain ⟨A, cap, cs, L0, L1, rfl, h2, h3, h5, h6, h7, ho⟩ := slice_of hx
    refine ⟨A, cap, cs, L1, rfl, h7, fun hp => ?_, fun b mb => ho b (by simp [mb]), fun hd => by rw [REs_flat h7 (flatD_two hd)]; simp, by simp, flatD_le _ _, flatD_pos _ _⟩
    obtain ⟨b, off, h8, _, h9⟩ := h6.at_ hp
    exact ⟨b, off, h8, h9⟩
  · simp only [Option.some.injEq, Prod.mk.injEq] at h
    obtain ⟨rfl, rfl, rfl⟩ := h
    have := nil_of hx
    subst this
    exact ⟨none, 0, [], [], rfl, ⟨rfl, rfl⟩, by simp, by simp, by simp, by simp, by simp, by simp⟩
  · rename_i k
    split at h
    · rename_i e' m' xs' d' hk
      simp only [srcOk, hk, beq_iff_eq] at hok
      subst hok
      have := row_of hx
      subst this
      obtain ⟨hm, cs, L, o1, o2, o3, o5⟩ := hI.deep hk
      obtain ⟨A, cap, L0, s1, s2, s3, s4, s5⟩ := Sl.row o1
      have hat : 0 < xs'.length → ∃ b off, A = some ⟨b, off, none⟩ ∧ CellsAt w b off cs := fun hp => by
        obtain ⟨b, off, h8, _, h9⟩ := s4.at_ hp
        exact ⟨b, off, h8, h9⟩
      split at h
      · simp only [Option.some.injEq, Prod.mk.injEq] at h
        obtain ⟨rfl, rfl, rfl⟩ := h
        exact ⟨A, cap, cs, L, s1, o2, hat, o3, fun hd => by rw [REs_flat o2 (flatD_two hd)]; simp, by simp, flatD_le _ _, flatD_pos _ _⟩
      · rename_i hd0
        simp only [Option.some.injEq, Prod.mk.injEq] at h
        obtain ⟨rfl, rfl, rfl⟩ := h
        refine ⟨A, cap, cs, L, s1, o2, hat, o3, fun hd => ?_, fun q mq => by simp at mq; subst mq; exact hu (.row q) (by simp), ?_, by omega⟩
        · rcases o5 with ⟨_, _, o5⟩ | ⟨o5, _⟩ | ⟨o5, _⟩
          · simp [o5]
          · omega
          · omega
        · rcases o5 with ⟨o5, _⟩ | ⟨o5, _⟩ | ⟨o5, _⟩ <;> omega
    · simp at h
  · simp at h
theorem flat_OD (ks : List Nat) : ∀ b, b ∈ ks.flatMap g.O ∨ b ∈ ks.flatMap g.D → b ∈ g.F ks := fun b h => by
  simp only [Gh.F, List.mem_flatMap, List.mem_append] at h ⊢
  rcases h with ⟨k, h1, h2⟩ | ⟨k, h1, h2⟩
  · exact ⟨k, h1, .inl h2⟩
  · exact ⟨k, h1, .inr h2⟩
theorem HI.nodupD {ob : Nat → Ob} (hI : HI W g ob w) : ∀ {ks : List Nat}, ks.Nodup → (ks.flatMap g.D).Nodup
  | [], _ => by simp
  | k :: ks, h => by
    simp only [List.flatMap_cons, List.nodup_append]
    rw [List.nodup_cons] at h
    refine ⟨(List.nodup_append.1 (hI.nodup k)).2.1, hI.nodupD h.2, fun x hx y hy e => ?_⟩
    subst e
    obtain ⟨j, hj, hy⟩ := List.mem_flatMap.1 hy
    exact hI.apart k j (fun e => h.1 (e ▸ hj)) x (by simp [hx]) (by simp [hy])
theorem app_ok (htt : ∀ t i, tt t = some i → TOk P t i) (hI : HI W g st.ob w) (hU : StU U st) (hkey : ¬ U key) {t : Nat} {s x : SV} {vs vx : Value} {r : SV × List (Nat × Ob)} (h : appV st key (tt t) s x = some r) (hs : SVR g w s vs ∧ svU U s) (hx : SVR g w x vx ∧ svU U x) {ty : TypeId} {q : Sem Next}
    (hq : q = (do pure (.value (← Builtin.append_ #[t, t] ty #[vs, vx])))) : Fin P W U key st g w q r := by
  unfold appV at h
  split at h
  · rename_i e m bytes z hti
    obtain ⟨⟨xs, k1, d1⟩, h1, h⟩ := Option.bind_eq_some_iff.1 h
    obtain ⟨⟨ys, k2, d2⟩, h2, h⟩ := Option.bind_eq_some_iff.1 h
    split at h
    · rename_i hc
      simp only [Option.some.injEq] at h
      subst h
      obtain ⟨hc1, hc2, hc3, hc4⟩ := hc
      simp only at hc3 hc4
      obtain ⟨hu, hm, hby0, ⟨ie, zv, hie, hsz, hby, hzz, hzc, hzl⟩, _⟩ := htt t _ hti
      obtain ⟨cs, Lx, a1, a2, a3, a4, a5, a6, a7, a8⟩ := dst_ok hI h1 hc1 hs.1 hs.2
      obtain ⟨A, c, news, Ly, b0, b1, b2, b3, b4, b5, b7, b8⟩ := src_ok hI h2 hc2 hx.1 hx.2
      subst b0
      obtain ⟨A1, cap1, hv1, hv2, hv3⟩ := own_slice a1
      have hnl : news.length = ys.length * m := b1.len
      -- what the append gives
      obtain ⟨v', w', r1, r2, r3, r4⟩ : ∃ v' w', (Builtin.append_ #[t, t] ty #[vs, .slice A ys.length c]).run P w = .ok v' w' ∧ w'.ownsRow 0 e m v' (xs.length + ys.length) (cs ++ news) ∧ w.grownBy w' vs.ownBlock ∧ (v'.ownBlock = vs.ownBlock ∨ v'.ownBlock = some w.heap.size) := by
        by_cases hy : ys.length = 0
        · have hn0 : news = [] := List.eq_nil_of_length_eq_zero (by rw [hnl, hy]; simp)
          refine ⟨vs, w, ?_, by rw [hn0, hy, List.append_nil]; exact a1, World.grownBy.refl _ _, .inl rfl⟩
          rw [hv1, hy]
          exact append_none hu hie A1 A _ _ _ hv2
        · obtain ⟨b, off, rfl, hcell⟩ := b2 (by omega)
          have hbytes : (xs.length + ys.length) * bytes ≤ 140737488355328 := by
            have := Nat.mul_le_mul hc4 hby0
            omega
          obtain ⟨v', w', q1, q2, q3, _, q5⟩ := run_append_own_at (P := P) w 0 t ty e ie zv m bytes hu hie hzz hsz hby (by rw [← hzl, hzc.len]; simp) hm vs xs.length cs a1 ⟨b, off, none⟩ ys.length c news hnl
            (fun j u hj => by rw [add_lit0]; exact hcell j u hj) b1.one (by unfold maxLen; omega) hbytes (Nat.zero_le _)
          exact ⟨v', w', q1, q2, q3, q5⟩
      have hnot : ∀ b, ¬ g.own b → some b ≠ vs.ownBlock := fun b hn e => hn (by
        have : b ∈ vs.ownBlock.toList := by simp [← e]
        rw [a5] at this
        obtain ⟨k, _, mk⟩ := List.mem_flatMap.1 this
        exact .inl ⟨k, mk⟩)
      have hkeepL : ∀ b ∈ Lx ++ Ly, w'.heap[b]? = w.heap[b]? := fun b mb => by
        rcases List.mem_append.1 mb with mb | mb
        · exact r3.block b (a2.lt b mb) (hnot b (a3 b mb))
        · exact r3.block b (b1.lt b mb) (hnot b (b3 b mb))
      have hREs : REs w' m (xs ++ ys) (cs ++ news) (Lx ++ Ly) := (a2.keep fun b mb => hkeepL b (by simp [mb])).append (b1.keep fun b mb => hkeepL b (by simp [mb]))
      have hOwn : ∀ b ∈ v'.ownBlock.toList, b ∈ k1.flatMap g.O ∨ b = w.heap.size := fun b mb => by
        rcases r4 with r4 | r4
        · rw [r4, a5] at mb; exact .inl mb
        · rw [r4] at mb; simp at mb; exact .inr mb
      have hDsub : (dmin d1 d2) = 2 → (Lx ++ Ly).Sublist ((k1 ++ k2).flatMap g.D) := fun hd => by
        have hd := dmin_two hd a7 b7
        rw [List.flatMap_append]
        exact List.Sublist.append (by rw [a4 hd.1]; exact List.Sublist.refl _) (b4 hd.2)
      have hDm : ∀ b ∈ (if (dmin d1 d2) = 2 then Lx ++ Ly else []), b ∈ Lx ++ Ly ∧ (dmin d1 d2) = 2 := fun b mb => by
        split at mb
        · rename_i hd; exact ⟨mb, hd⟩
        · simp at mb
      have hbel : Bel W w' := by
        refine ⟨r3.os.trans hI.below.os, r3.tape.trans hI.below.tape, r3.output.trans hI.below.output, Nat.le_trans hI.below.size r3.size, fun b hb hx' => ?_⟩
        rw [r3.block b (Nat.lt_of_lt_of_le hb hI.below.size) fun e => ?_]
        · exact hI.below.block b hb hx'
        · have : b ∈ vs.ownBlock.toList := by simp [← e]
          rw [a5] at this
          obtain ⟨k, _, mk⟩ := List.mem_flatMap.1 this
          rcases (hI.plain k b (by simp [mk])).1 with h | h
          · omega
          · exact hx' h
      obtain ⟨t1, t2⟩ := hI.turn (key := key) (U := U) (w' := w') (v := v') (O := v'.ownBlock.toList) (D := if (dmin d1 d2) = 2 then Lx ++ Ly else []) (o := .row e m (xs ++ ys) (dmin d1 d2)) hU.ob hkey (k1 ++ k2)
        (fun k mk => (List.mem_append.1 mk).elim (a6 k) (b5 k)) hbel r3.size (fun b hb hn => r3.block b hb fun e => by
          have : b ∈ vs.ownBlock.toList := by simp [← e]
          rw [a5] at this
          obtain ⟨k, hk, mk⟩ := List.mem_flatMap.1 this
          exact hn k (by simp [hk]) mk)
        (fun b mb => by
          rcases hOwn b mb with mb | rfl
          · obtain ⟨k, hk, mk⟩ := List.mem_flatMap.1 mb
            exact .inl ⟨k, by simp [hk], mk⟩
          · exact .inr (Nat.le_refl _))
        (fun b mb => by
          obtain ⟨m1, m2⟩ := hDm b mb
          obtain ⟨k, hk, mk⟩ := List.mem_flatMap.1 ((hDsub m2).subset m1)
          exact .inl ⟨k, hk, by simp [mk]⟩)
        (by
          rw [List.nodup_append]
          refine ⟨by cases v'.ownBlock <;> simp, ?_, fun b mb b' mb' e => ?_⟩
          · split
            · rename_i hd; exact (hI.nodupD hc3).sublist (hDsub hd)
            · simp
          · subst e
            obtain ⟨m1, m2⟩ := hDm b mb'
            rcases hOwn b mb with mb | rfl
            · obtain ⟨k, _, mk⟩ := List.mem_flatMap.1 mb
              rcases List.mem_append.1 m1 with m1 | m1
              · exact a3 b m1 (.inl ⟨k, mk⟩)
              · exact b3 b m1 (.inl ⟨k, mk⟩)
            · rcases List.mem_append.1 m1 with m1 | m1
              · have := a2.lt _ m1; omega
              · have := b1.lt _ m1; omega)
        (fun b mb => by
          rcases List.mem_append.1 mb with mb | mb
          · have hpl : W.heap.size ≤ b ∨ W.x b := by
              rcases hOwn b mb with mb | rfl
              · obtain ⟨k, _, mk⟩ := List.mem_flatMap.1 mb
                exact (hI.plain k b (by simp [mk])).1
              · exact .inl hI.below.size
            rcases r2.2 with ⟨h', _⟩ | ⟨g', cap', cur, h', hg0, hg, _⟩
            · simp [h', Value.ownBlock] at mb
            · simp [h', Value.ownBlock] at mb
              subst mb
              exact ⟨hpl, cur, e, hg⟩
          · obtain ⟨m1, m2⟩ := hDm b mb
            obtain ⟨k, hk, mk⟩ := List.mem_flatMap.1 ((hDsub m2).subset m1)
            obtain ⟨p1, cur, e', p2⟩ := hI.plainD mk
            exact ⟨p1, cur, e', by rw [hkeepL b m1]; exact p2⟩)
        (fun hown => ⟨hm, cs ++ news, Lx ++ Ly, by simpa [Gh.turn, upd] using r2, hREs, by
          by_cases hd : dmin d1 d2 = 2
          · exact .inl ⟨hd, by simp [Gh.turn, upd], by simp [Gh.turn, hd]⟩
          · have hd1 : dmin d1 d2 = 1 := by unfold dmin at hd ⊢; split <;> simp_all <;> omega
            refine .inr (.inl ⟨hd1, by simp [Gh.turn, upd], by simp [Gh.turn, hd], fun b mb ho => ?_⟩)
            have hnb : ¬ g.own b := by
              rcases List.mem_append.1 mb with m1 | m1
              · exact a3 b m1
              · exact b3 b m1
            rcases turn_own ho with mo | ⟨k, _, _, mk⟩ | hz
            · rcases hOwn b mo with mo | rfl
              · obtain ⟨k, _, mk⟩ := List.mem_flatMap.1 mo
                exact hnb (.inl ⟨k, mk⟩)
              · rcases List.mem_append.1 mb with m1 | m1
                · have := a2.lt _ m1; omega
                · have := b1.lt _ m1; omega
            · exact hnb (.inl ⟨k, mk⟩)
            · exact hnb (.inr hz)⟩)
      have hwf := wf_turn (key := key) (o := .row e m (xs ++ ys) (dmin d1 d2)) hU (k1 ++ k2) trivial
      refine ⟨_, v', w', .inl (by subst hq; simp only [Sem.run_bind, r1, Result.andThen_ok, Sem.run_pure]), t1, ⟨_, rfl, ⟨by simp [Gh.turn, upd], ?_⟩⟩, t2, fun y my => by simp at my; subst my; exact key_in, hwf.1, hwf.2⟩
      obtain ⟨A2, cap2, hv'⟩ := own_val r2
      simp [hv', Value.oneCell']
    · simp at h
  · simp at h
end
end Go.Proofs.Ytfbonanbiblkbaa
