/- Plain functions over lists of ints (sets as numbers), and their laws. No program in sight. -/
import Derived.WalkKit
namespace Go.Proofs.Ytfmplnebdldpdaa

/-- impl.hasInt -/
def hasI (zs : List Int) (x : Int) : Bool := zs.any (· == x)

/-- laws.eqIntS, laws.ints -/
def eqI (a b : List Int) : Bool := a == b
theorem eqI_cons (x y : Int) (a b : List Int) : eqI (x :: a) (y :: b) = (x == y && eqI a b) := by simp [eqI]


/-- k, k + 1, .. -/
def marks (k : Int) (n : Nat) : List Int := (List.range n).map (fun (i : Nat) => k + (i : Int))

@[simp] theorem marks_length (k : Int) (n : Nat) : (marks k n).length = n := by simp [marks]


theorem marks_get (k : Int) (n j : Nat) (h : j < n) : (marks k n).getD j 0 = k + j := by simp [marks, h]


/-- spec.l13Put, its loop -/
def putL : List Int → Int → Bool → List Int → Bool × List Int
  | [], _, d, out => (d, out)
  | y :: ys, x, d, out => if d = false ∧ x ≤ y then putL ys x true ((if y = x then out else out ++ [x]) ++ [y]) else putL ys x d (out ++ [y])
def put13 (l : List Int) (x : Int) : List Int := let r := putL l x false []; if r.1 then r.2 else r.2 ++ [x]


def isPart (a b : Int) : Bool := decide (0 ≤ a) && decide (0 ≤ b) && (bits .and .i64 a b == a)


/-- no other set of the list is a part of x -/
def leastIn (l : List Int) (x : Int) (d : Bool) : Bool := l.foldl (fun d t => d && (!isPart t x || t == x)) d

theorem putL_len (x : Int) : ∀ (ys : List Int) (d : Bool) (out : List Int), (putL ys x d out).2.length + (if (putL ys x d out).1 then 0 else 1) ≤ ys.length + out.length + (if d then 0 else 1)
  | [], d, out => by cases d <;> simp [putL]
  | y :: ys, d, out => by
    rw [putL]
    split
    · rename_i h
      have hlen : ((if y = x then out else out ++ [x]) ++ [y]).length ≤ out.length + 2 := by split <;> simp
      have := putL_len x ys true ((if y = x then out else out ++ [x]) ++ [y])
      have hd : d = false := h.1
      subst hd
      generalize (if y = x then out else out ++ [x]) ++ [y] = o at this hlen ⊢
      simp at this ⊢
      omega
    · have := putL_len x ys d (out ++ [y])
      simp at this ⊢
      omega
theorem put13_len (l : List Int) (x : Int) : (put13 l x).length ≤ l.length + 1 := by
  have := putL_len x l false []
  unfold put13
  simp only [] at this ⊢
  split <;> simp_all

/-- the reference's LeastSets from a place on -/
def sLeastL (l : List Int) : List Int → List Int → List Int
  | [], out => out
  | x :: r, out => sLeastL l r (if leastIn l x (decide (0 ≤ x)) then put13 out x else out)
def sLeast (l : List Int) : List Int := sLeastL l l []


/-- the ints in ascending order -/
def sortI (zs : List Int) : List Int := zs.mergeSort fun x y => decide (x ≤ y)
theorem sortI_length (zs : List Int) : (sortI zs).length = zs.length := List.length_mergeSort zs


/-- the program's test: no other set of the list is a part of x -/
def leastOf (l : List Int) (x : Int) (d : Bool) : Bool := l.foldl (fun d t => d && (t == x || !isPart t x)) d
def iLeastL (l : List Int) : List Int → List Int → List Int
  | [], out => out
  | x :: r, out => iLeastL l r (if leastOf l x (decide (0 ≤ x) && !hasI out x) then out ++ [x] else out)
def iLeast (l : List Int) : List Int := sortI (iLeastL l l [])


theorem leastIn_eq (l : List Int) (x : Int) (d : Bool) : leastIn l x d = (d && l.all (fun t => !isPart t x || t == x)) := by
  unfold leastIn
  induction l generalizing d with
  | nil => simp
  | cons t r ih => simp only [List.foldl_cons, ih, List.all_cons, Bool.and_assoc]
theorem leastOf_eq (l : List Int) (x : Int) (d : Bool) : leastOf l x d = (d && l.all (fun t => !isPart t x || t == x)) := by
  unfold leastOf
  induction l generalizing d with
  | nil => simp
  | cons t r ih => simp only [List.foldl_cons, ih, List.all_cons, Bool.and_assoc]; rw [Bool.or_comm (t == x)]

/-- x is a set, and no other set of l is a part of it -/
def goodIn (l : List Int) (x : Int) : Bool := decide (0 ≤ x) && l.all (fun t => !isPart t x || t == x)

theorem putL_true (x : Int) : ∀ (ys out : List Int), putL ys x true out = (true, out ++ ys)
  | [], out => by simp [putL]
  | y :: ys, out => by rw [putL, if_neg (by simp), putL_true x ys]; simp
/-- insertion into an ascending list -/
theorem putL_false (x : Int) : ∀ (ys out : List Int), ys.Pairwise (· < ·) → (putL ys x false out).2 ++ (if (putL ys x false out).1 then [] else [x]) = out ++ (ys.filter (· < x) ++ x :: ys.filter (x < ·))
  | [], out, _ => by simp [putL]
  | y :: ys, out, h => by
    rw [List.pairwise_cons] at h
    rw [putL]
    by_cases hxy : x ≤ y
    · rw [if_pos ⟨rfl, hxy⟩, putL_true]
      have h1 : ys.filter (· < x) = [] := by
        rw [List.filter_eq_nil_iff]; intro a ha; have := h.1 a ha; simp; omega
      have h2 : ys.filter (x < ·) = ys := by
        rw [List.filter_eq_self]; intro a ha; have := h.1 a ha; simp; omega
      by_cases e : y = x
      · subst e; simp [h1, h2]
      · have hlt : x < y := by omega
        simp [e, h1, h2, hlt, show ¬ y < x by omega]
    · rw [if_neg (by simp [hxy]), putL_false x ys _ h.2]
      simp [show y < x by omega, show ¬ x < y by omega]
theorem put13_eq (l : List Int) (x : Int) (h : l.Pairwise (· < ·)) : put13 l x = l.filter (· < x) ++ x :: l.filter (x < ·) := by
  have := putL_false x l [] h
  rw [List.nil_append] at this
  rw [← this]
  unfold put13
  simp only []
  split <;> simp_all
theorem put13_mem (l : List Int) (x y : Int) (h : l.Pairwise (· < ·)) : y ∈ put13 l x ↔ y = x ∨ y ∈ l := by
  rw [put13_eq l x h]
  simp only [List.mem_append, List.mem_cons, List.mem_filter, decide_eq_true_eq]
  constructor
  · rintro (⟨h, _⟩ | h | ⟨h, _⟩) <;> simp [h]
  · rintro (h | h)
    · simp [h]
    · rcases Int.lt_trichotomy y x with h1 | h1 | h1 <;> simp [h, h1]
theorem put13_sorted (l : List Int) (x : Int) (h : l.Pairwise (· < ·)) : (put13 l x).Pairwise (· < ·) := by
  rw [put13_eq l x h, List.pairwise_append, List.pairwise_cons]
  refine ⟨h.filter _, ⟨by simp, h.filter _⟩, ?_⟩
  intro a ha b hb
  simp only [List.mem_filter, List.mem_cons, decide_eq_true_eq] at ha hb
  rcases hb with rfl | hb <;> omega

theorem sLeastL_spec (l : List Int) : ∀ (r out : List Int), out.Pairwise (· < ·) → (sLeastL l r out).Pairwise (· < ·) ∧ ∀ y, y ∈ sLeastL l r out ↔ y ∈ out ∨ (y ∈ r ∧ goodIn l y = true)
  | [], out, h => by simp [sLeastL, h]
  | x :: r, out, h => by
    rw [sLeastL, leastIn_eq]
    by_cases hg : goodIn l x = true
    · have hg' : (decide (0 ≤ x) && l.all fun t => !isPart t x || t == x) = true := hg
      rw [if_pos hg']
      obtain ⟨h1, h2⟩ := sLeastL_spec l r (put13 out x) (put13_sorted out x h)
      refine ⟨h1, fun y => ?_⟩
      rw [h2, put13_mem out x y h, List.mem_cons]
      constructor
      · rintro ((rfl | h) | h)
        · exact .inr ⟨.inl rfl, hg⟩
        · exact .inl h
        · exact .inr ⟨.inr h.1, h.2⟩
      · rintro (h | ⟨rfl | h, h'⟩)
        · exact .inl (.inr h)
        · exact .inl (.inl rfl)
        · exact .inr ⟨h, h'⟩
    · have hg' : ¬ (decide (0 ≤ x) && l.all fun t => !isPart t x || t == x) = true := hg
      rw [if_neg hg']
      obtain ⟨h1, h2⟩ := sLeastL_spec l r out h
      refine ⟨h1, fun y => ?_⟩
      rw [h2, List.mem_cons]
      constructor
      · rintro (h | h)
        · exact .inl h
        · exact .inr ⟨.inr h.1, h.2⟩
      · rintro (h | ⟨rfl | h, h'⟩)
        · exact .inl h
        · exact absurd h' hg
        · exact .inr ⟨h, h'⟩

theorem hasI_mem (l : List Int) (x : Int) : hasI l x = decide (x ∈ l) := by
  rw [Bool.eq_iff_iff]; simp [hasI]

theorem iLeastL_spec (l : List Int) : ∀ (r out : List Int), out.Nodup → (iLeastL l r out).Nodup ∧ ∀ y, y ∈ iLeastL l r out ↔ y ∈ out ∨ (y ∈ r ∧ goodIn l y = true)
  | [], out, h => by simp [iLeastL, h]
  | x :: r, out, h => by
    rw [iLeastL, leastOf_eq]
    by_cases hg : goodIn l x = true ∧ x ∉ out
    · have hg' : (decide (0 ≤ x) && !hasI out x && l.all fun t => !isPart t x || t == x) = true := by
        have := hg.1
        simp only [goodIn, Bool.and_eq_true] at this
        simp [hasI_mem, hg.2, this.1, this.2]
      rw [if_pos hg']
      obtain ⟨h1, h2⟩ := iLeastL_spec l r (out ++ [x]) (by rw [List.nodup_append]; simp [h]; intro a ha e; exact hg.2 (e ▸ ha))
      refine ⟨h1, fun y => ?_⟩
      rw [h2, List.mem_append, List.mem_singleton, List.mem_cons]
      constructor
      · rintro ((h | rfl) | h)
        · exact .inl h
        · exact .inr ⟨.inl rfl, hg.1⟩
        · exact .inr ⟨.inr h.1, h.2⟩
      · rintro (h | ⟨rfl | h, h'⟩)
        · exact .inl (.inl h)
        · exact .inl (.inr rfl)
        · exact .inr ⟨h, h'⟩
    · have hg' : ¬ (decide (0 ≤ x) && !hasI out x && l.all fun t => !isPart t x || t == x) = true := by
        intro e
        apply hg
        simp only [Bool.and_eq_true, hasI_mem] at e
        exact ⟨by simp only [goodIn, Bool.and_eq_true]; exact ⟨e.1.1, e.2⟩, by simpa using e.1.2⟩
      rw [if_neg hg']
      obtain ⟨h1, h2⟩ := iLeastL_spec l r out h
      refine ⟨h1, fun y => ?_⟩
      rw [h2, List.mem_cons]
      constructor
      · rintro (h | h)
        · exact .inl h
        · exact .inr ⟨.inr h.1, h.2⟩
      · rintro (h | ⟨rfl | h, h'⟩)
        · exact .inl h
        · by_cases hx : y ∈ out
          · exact .inl hx
          · exact absurd ⟨h', hx⟩ hg
        · exact .inr ⟨h, h'⟩

theorem sorted_ext : ∀ (a b : List Int), a.Pairwise (· < ·) → b.Pairwise (· < ·) → (∀ y, y ∈ a ↔ y ∈ b) → a = b
  | [], [], _, _, _ => rfl
  | [], y :: b, _, _, h => by have := (h y).2 (by simp); simp at this
  | x :: a, [], _, _, h => by have := (h x).1 (by simp); simp at this
  | x :: a, y :: b, ha, hb, h => by
    rw [List.pairwise_cons] at ha hb
    have e : x = y := by
      have h1 := (h x).1 (by simp)
      have h2 := (h y).2 (by simp)
      rw [List.mem_cons] at h1 h2
      rcases h1 with h1 | h1
      · exact h1
      · rcases h2 with h2 | h2
        · exact h2.symm
        · have := hb.1 x h1; have := ha.1 y h2; omega
    subst e
    congr 1
    refine sorted_ext a b ha.2 hb.2 fun z => ?_
    have hz := h z
    rw [List.mem_cons, List.mem_cons] at hz
    constructor
    · intro m
      rcases hz.1 (.inr m) with rfl | m'
      · exact absurd (ha.1 z m) (by omega)
      · exact m'
    · intro m
      rcases hz.2 (.inr m) with rfl | m'
      · exact absurd (hb.1 z m) (by omega)
      · exact m'

theorem sortI_sorted (l : List Int) (h : l.Nodup) : (sortI l).Pairwise (· < ·) := by
  have h1 : (sortI l).Pairwise (fun a b => decide (a ≤ b) = true) := List.pairwise_mergeSort (fun a b c => by simp; omega) (fun a b => by simp; omega) l
  have h2 : (sortI l).Nodup := (List.mergeSort_perm l _).nodup_iff.2 h
  rw [List.Nodup] at h2
  refine List.Pairwise.imp₂ ?_ h1 h2
  intro a b h1 h2
  have : a ≤ b := by simpa using h1
  omega
theorem sortI_mem (l : List Int) (y : Int) : y ∈ sortI l ↔ y ∈ l := (List.mergeSort_perm l _).mem_iff

theorem least_same (l : List Int) : iLeast l = sLeast l := by
  obtain ⟨h1, h2⟩ := sLeastL_spec l l [] List.Pairwise.nil
  obtain ⟨h3, h4⟩ := iLeastL_spec l l [] List.nodup_nil
  refine sorted_ext _ _ (sortI_sorted _ h3) h1 fun y => ?_
  rw [iLeast, sortI_mem, h4, sLeast, h2]

def orI (x y : Int) : Int := bits .or .i64 x y
/-- one round of UnionsOf -/
def unL (x : Int) : List Int → List Int → List Int
  | [], out => out
  | y :: b, out => unL x b (if 0 ≤ x ∧ 0 ≤ y then out ++ [orI x y] else out)
def unsL (b : List Int) : List Int → List Int → List Int
  | [], out => out
  | x :: a, out => unsL b a (unL x b out)
def unAll (a b : List Int) : List Int := unsL b a []
theorem unL_len (x : Int) : ∀ (b out : List Int), (unL x b out).length ≤ b.length + out.length
  | [], out => by simp [unL]
  | y :: b, out => by
    rw [unL]
    have h := unL_len x b (if 0 ≤ x ∧ 0 ≤ y then out ++ [orI x y] else out)
    have h2 : (if 0 ≤ x ∧ 0 ≤ y then out ++ [orI x y] else out).length ≤ out.length + 1 := by split <;> simp
    simp only [List.length_cons]; omega
theorem unL_ge (x : Int) : ∀ (b out : List Int), out.length ≤ (unL x b out).length
  | [], out => by simp [unL]
  | y :: b, out => by
    rw [unL]
    have h := unL_ge x b (if 0 ≤ x ∧ 0 ≤ y then out ++ [orI x y] else out)
    have h2 : out.length ≤ (if 0 ≤ x ∧ 0 ≤ y then out ++ [orI x y] else out).length := by split <;> simp
    omega
theorem unsL_ge (b : List Int) : ∀ (a out : List Int), out.length ≤ (unsL b a out).length
  | [], out => by simp [unsL]
  | x :: a, out => by
    rw [unsL]
    have h := unsL_ge b a (unL x b out)
    have h2 := unL_ge x b out
    omega
theorem unsL_len (b : List Int) : ∀ (a out : List Int), (unsL b a out).length ≤ a.length * b.length + out.length
  | [], out => by simp [unsL]
  | x :: a, out => by
    rw [unsL]
    have h := unsL_len b a (unL x b out)
    have h2 := unL_len x b out
    simp only [List.length_cons, Nat.add_mul, Nat.one_mul]; omega

theorem unAll_len (a b : List Int) (ha : a.length ≤ 1048576) (hb : b.length ≤ 1048576) : (unAll a b).length ≤ 1099511627776 := by
  have h := unsL_len b a []
  have h2 : a.length * b.length ≤ 1048576 * 1048576 := Nat.mul_le_mul ha hb
  simp only [List.length_nil, Nat.add_zero] at h
  exact Nat.le_trans h h2

/-- a set meets each set of a list -/
def hitsAll (s : Int) : List Int → Bool → Bool
  | [], d => d
  | x :: r, d => hitsAll s r (d && (bits .and .i64 s x != 0))
/-- the sets from s on, below top, that meet each set of l, behind out -/
def hitAll (l : List Int) : Nat → Nat → List Int → List Int
  | 0, _, out => out
  | f + 1, s, out => hitAll l f (s + 1) (if hitsAll (s : Int) l true then out ++ [(s : Int)] else out)
/-- all numbers of the list are sets of n elements -/
def fitAll (l : List Int) (top : Int) : Bool := l.all fun x => decide (0 ≤ x) && decide (x < top)
def hitting (l : List Int) (n : Int) : List Int :=
  if 0 ≤ n ∧ n ≤ 6 then (if fitAll l ((2 ^ n.toNat : Nat) : Int) then hitAll l (2 ^ n.toNat) 0 [] else []) else []

end Go.Proofs.Ytfmplnebdldpdaa
