/- Contracts of the small functions over slices of ints. -/
import Derived.Test.YtfmplnebdldpdaaProg
import Derived.Test.YtfmplnebdldpdaaBase
import Derived.Test.YtfmplnebdldpdaaSets
import Derived.Outline
import Derived.BigQuiet
import Derived.Deep.QuietTactic
namespace Go.Proofs.Ytfmplnebdldpdaa
open Go.RowKit

set_option maxHeartbeats 400000 in
theorem hasInt_any (A : Option Addr) (n c : Nat) (zs : List Int) (L : List Nat) (x : Int) (w : World) (hm : n ≤ 9223372036854775807) (h : Ints w A n zs L) :
    Calls Try.prog 45 #[.slice A n c, .int .i64 x] w fun e w' => e = .returned (.bool (hasI zs x)) ∧ w = w' := by
  have H := Lib.hid h
  clear h
  go_enter Try.func45, Try.ntmps45
  go_wp2
  go_loop [6, 9] (fun _ i => ∃ k : Nat, k ≤ n ∧ i = .int .i64 k ∧ Hid (hasI (zs.drop k) x = hasI zs x)) (fun _ i => n - (intOf i).toNat)
  case atStart => exact ⟨0, Nat.zero_le _, rfl, Lib.hid (by simp)⟩
  case round =>
    obtain ⟨k, hk, rfl, hr⟩ := hrel
    by_cases hlt : k < n
    · obtain ⟨b, off, rfl, _, hc⟩ := H.out.at_ hlt
      have hl := H.out.len
      have hd : Hid (zs.drop k = zs.getD k 0 :: zs.drop (k + 1)) := drop_cons (by omega)
      generalize zs.getD k 0 = z at hc hd
      clear hl
      go_wp2
      · go_ret
        exact ⟨ret_b (by rw [← hr.out, hd.out]; simp_all [hasI]), rfl⟩
      · go_round
        case rel => exact ⟨k + 1, by omega, by go_num, Lib.hid (by rw [← hr.out, hd.out]; simp_all [hasI])⟩
        case measure => simp [intOf]; omega
    · go_wp2
      go_ret
      exact ⟨ret_b (by rw [← hr.out, List.drop_of_length_le (by have := H.out.len; omega)]; rfl), rfl⟩

theorem Try.infoInt : (Try.prog.info? 3).map (fun i => (i.zero, i.size, i.bytes)) = some (some (.int .i64 0), 1, 8) := by kernel_rfl

/-- a row of ints that the call has made -/
def AccI (W : World) (v : Value) (zs : List Int) (w : World) : Prop := Acc W 3 1 v zs.length (zs.map (Value.int .i64)) w
theorem AccI.drewN {W : World} {v : Value} {zs : List Int} {w : World} (h : AccI W v zs w) (q : Nat) : AccI W v zs (w.drewN q) := Acc.drewN h q
theorem AccI.later {W : World} {v : Value} {zs : List Int} {w w' : World} (h : AccI W v zs w) (hb : Below w.heap.size w w') : AccI W v zs w' := Acc.later h hb
theorem AccI.nil {W w : World} (hb : Below W.heap.size W w) : AccI W (.slice none 0 0) [] w := Acc.nil _ _ hb
theorem AccI.made {W w : World} (hb : Below W.heap.size W w) : AccI W (.slice (some ⟨w.heap.size, 0, none⟩) 0 0) [] (w.alloc (.cells #[] 3)) := Acc.made _ _ hb
/-- 'out = append(out, z)' -/
theorem app_int {ops : Array Oper} {rest : List Oper} {o : Oper} {a : Act} {Q : Exit → Act → World → Prop} {w0 : World} (hgd : o.guard = none) (s x : Operand)
    (ho : o.op = .call { callee := .builtin .append, args := #[s, x], argTypes := #[32, 32] }) (W : World) (v : Value) (out : List Int) (z : Int)
    (hs : a.eval s = v) (hx : a.eval x = .slice (some ⟨w0.heap.size, 0, none⟩) 1 1) (hown : Hid (AccI W v out w0)) (hlen : out.length < 17592186044416)
    (h : ∀ v' w', Hid (AccI W v' (out ++ [z]) w') → wpList Try.prog ops Q rest (a.put o.dst v') w') :
    wpList Try.prog ops Q (o :: rest) a (w0.alloc (.cells #[.int .i64 z] 3)) := by
  refine app_one hgd s x 32 ho 3 (.int .i64 0) 1 8 Try.underlying32 Try.infoInt rfl (by omega) W.heap.size v out.length (out.map (Value.int .i64)) [.int .i64 z] hs hx hown.out.own rfl (by simp [Value.oneCell']) (by omega) (by omega) hown.out.size ?_
  intro v' w' h1 h2 _
  exact h v' w' ⟨by simpa using h1, hown.out.below.grown h2 hown.out.size (own_block_ge hown.out.own)⟩

theorem step_app_int {ops : Array Oper} {o : Oper} {a : Act} {K : Act → World → Prop} {Q : Exit → Act → World → Prop} {E : Prop} {w0 : World} (hgd : o.guard = none) (s x : Operand)
    (ho : o.op = .call { callee := .builtin .append, args := #[s, x], argTypes := #[32, 32] }) (W : World) (v : Value) (out : List Int) (z : Int)
    (hs : a.eval s = v) (hx : a.eval x = .slice (some ⟨w0.heap.size, 0, none⟩) 1 1) (hown : Hid (AccI W v out w0)) (hlen : out.length < 17592186044416)
    (h : ∀ v' w', Hid (AccI W v' (out ++ [z]) w') → K (a.put o.dst v') w') :
    if Region.wanted o (yielded ops a.tmps) = true then Oper.wp Try.prog o a (w0.alloc (.cells #[.int .i64 z] 3)).drew K Q else E := by
  refine step_app_one hgd s x 32 ho 3 (.int .i64 0) 1 8 Try.underlying32 Try.infoInt rfl (by omega) W.heap.size v out.length (out.map (Value.int .i64)) [.int .i64 z] hs hx hown.out.own rfl (by simp [Value.oneCell']) (by omega) (by omega) hown.out.size ?_
  intro v' w' h1 h2 _
  exact h v' w' ⟨by simpa using h1, hown.out.below.grown h2 hown.out.size (own_block_ge hown.out.own)⟩

theorem AccI.from_ {W w : World} {v : Value} {zs : List Int} {w' : World} (h : AccI w v zs w') (hb : Below W.heap.size W w) : AccI W v zs w' := Acc.from_ h hb
theorem AccI.shape {W : World} {v : Value} {zs : List Int} {w : World} (h : AccI W v zs w) : ∃ A c, v = .slice A zs.length c ∧ zs.length ≤ c ∧ c ≤ maxLen := own_slice h.own
theorem AccI.ints {W : World} {A : Option Addr} {n c : Nat} {zs : List Int} {w : World} (h : AccI W (.slice A n c) zs w) : n = zs.length ∧ ∃ L, Ints w A n zs L ∧ Own w W.heap.size L := by
  obtain ⟨A', c', hv, _⟩ := h.shape
  injection hv with h1 h2 h3
  subst h1 h2 h3
  obtain ⟨L, hs, ho, _⟩ := Sl.of_own h.own
  exact ⟨rfl, L, hs, ho⟩

/-- what a call that gives a new slice of ints leaves -/
def GivesInts (w : World) (zs : List Int) (e : Ending) (w' : World) : Prop := ∃ v, e = .returned v ∧ AccI w v zs w'
theorem AccI.gives {W w' : World} {v : Value} {zs : List Int} (h : AccI W v zs w') : GivesInts W zs (.returned v) w' := ⟨v, rfl, h⟩

-- laws.toIntS
set_option maxHeartbeats 400000 in
theorem toIntS_acc (A : Option Addr) (n c : Nat) (zs : List Int) (L : List Nat) (w : World) (hm : n ≤ 17592186044416) (h : Ints w A n zs L) :
    Calls Try.prog 19 #[.slice A n c] w (GivesInts w zs) := by
  obtain ⟨i0, hi, hz0, hz1, hz2⟩ := info_parts Try.infoInt
  have H := Lib.hid h
  clear h
  go_enter Try.func19, Try.ntmps19
  go_wp2_with (at_make; refine wpList_make_full _ rfl _ _ 32 rfl w.heap.size 3 i0 _ 1 Try.underlying32 hi hz0 hz1 .i64 .i64 _ _ n rfl rfl rfl rfl (by rw [hz2]; omega) (by unfold maxLen; omega) (Nat.le_refl _) ?_; intro w1 hown hg)
  have hb : Below w.heap.size w w1 := (Below.refl _ _).grown hg (Nat.le_refl _) (by simp)
  have HO : Hid (w1.ownsRow w.heap.size 3 1 (.slice (some ⟨w.heap.size, 0, none⟩) n n) n ((List.replicate n (0 : Int)).map (Value.int .i64))) := by
    have e : (madeCells (Value.int .i64 0).cells (n * 1)).toList = (List.replicate n (0 : Int)).map (Value.int .i64) := by
      rw [Nat.mul_one, show (Value.int .i64 0).cells = #[Value.int .i64 0] from rfl, toList_madeCells_one]; simp
    rw [← e]; exact hown
  clear hown hg
  generalize hg0 : w.heap.size = g at *
  have HG := Lib.hid hg0
  clear hg0
  go_wp2
  go_loopw [4] (fun i wr => ∃ k : Nat, k ≤ n ∧ i = .int .i64 k ∧ Hid (wr.ownsRow g 3 1 (.slice (some ⟨g, 0, none⟩) n n) n ((zs.take k ++ List.replicate (n - k) 0).map (Value.int .i64)) ∧ Below g w wr)) (fun i _ => n - (intOf i).toNat)
  case atStart => exact ⟨0, Nat.zero_le _, rfl, by simpa using HO.out, hb⟩
  case round =>
    obtain ⟨k, hk, rfl, hr⟩ := hrel
    by_cases hlt : k < n
    · have hl := H.out.len
      have hbk := (H.out.keep (keep_below (by rw [HG.out]; exact hr.out.2) H.out.lt))
      obtain ⟨b, off, rfl, _, hc⟩ := hbk.at_ hlt
      have hown := hr.out.1
      have hd : wr.cell? ⟨g, k, none⟩ = some (.int .i64 0) := by
        rw [hown.cellAt k (by omega)]
        rw [List.getElem?_map, fill_get zs 0 k n hl hlt]; rfl
      have hf := hown.frozenAt k
      have R := hown.stored k (.int .i64 (zs.getD k 0))
      have HR : Hid ((wr.setCell ⟨g, k, none⟩ (.int .i64 (zs.getD k 0))).ownsRow g 3 1 (.slice (some ⟨g, 0, none⟩) n n) n ((zs.take (k + 1) ++ List.replicate (n - (k + 1)) 0).map (Value.int .i64))) := by
        have e : ((zs.take k ++ List.replicate (n - k) 0).map (Value.int .i64)).set k (.int .i64 (zs.getD k 0)) = (zs.take (k + 1) ++ List.replicate (n - (k + 1)) 0).map (Value.int .i64) := by
          rw [← fill_set zs 0 0 k n hl hlt, ← List.map_set]
        rw [← e]; exact R.1
      have HB : Hid (Below g w (wr.setCell ⟨g, k, none⟩ (.int .i64 (zs.getD k 0)))) := hr.out.2.setCell (Nat.le_refl _) _
      clear R hown hr hbk hl
      generalize zs.getD k 0 = z at hc HR HB
      go_wp2
      go_roundw
      case rel => exact ⟨k + 1, by omega, by go_num, HR.out, HB.out⟩
      case measure => simp [intOf]; omega
    · have hkn : n - k = 0 := by omega
      have R : Hid (GivesInts w zs (.returned (.slice (some ⟨g, 0, none⟩) n n)) wr) := by
        refine ⟨_, rfl, ?_, by rw [HG.out]; exact hr.out.2⟩
        have hl := H.out.len
        have := hr.out.1
        rw [hkn, List.take_of_length_le (by omega)] at this
        subst hl
        simpa [HG.out] using this
      clear hkn
      go_wp2
      go_ret
      exact R.out
set_option maxHeartbeats 400000 in
theorem eqIntS_acc (A B : Option Addr) (n m c d : Nat) (xs ys : List Int) (L M : List Nat) (w : World) (hn : n ≤ 9223372036854775807) (hm : m ≤ 9223372036854775807) (ha : Ints w A n xs L) (hb : Ints w B m ys M) :
    Calls Try.prog 21 #[.slice A n c, .slice B m d] w fun e w' => e = .returned (.bool (eqI xs ys)) ∧ ∃ q, w' = w.drewN q := by
  have HA := Lib.hid ha
  have HB := Lib.hid hb
  have la := ha.len
  have lb := hb.len
  by_cases hnm : n = m
  · subst hnm
    have hne : ((n : Int) != n) = false := by simp
    have HLA := Lib.hid la
    have HLB := Lib.hid lb
    clear la lb ha hb
    go_enter Try.func21, Try.ntmps21
    go_wp2
    go_loopw [5] (fun i wr => ∃ k : Nat, k ≤ n ∧ i = .int .i64 k ∧ Hid (eqI (xs.drop k) (ys.drop k) = eqI xs ys ∧ ∃ q, wr = w.drewN q)) (fun i _ => n - (intOf i).toNat)
    case atStart => exact ⟨0, Nat.zero_le _, rfl, by simp, 0, rfl⟩
    case round =>
      obtain ⟨k, hk, rfl, hr⟩ := hrel
      obtain ⟨q, rfl⟩ := hr.out.2
      by_cases hlt : k < n
      · obtain ⟨b, off, rfl, _, hc⟩ := HA.out.at_ hlt
        obtain ⟨b', off', rfl, _, hc'⟩ := HB.out.at_ hlt
        have hd : Hid (xs.drop k = xs.getD k 0 :: xs.drop (k + 1)) := drop_cons (by have := HLA.out; omega)
        have hd' : Hid (ys.drop k = ys.getD k 0 :: ys.drop (k + 1)) := drop_cons (by have := HLB.out; omega)
        generalize xs.getD k 0 = x at hc hd
        generalize ys.getD k 0 = y at hc' hd'
        have hr1 := Lib.hid hr.out.1
        clear hr
        have hk0 : (0 : Int) ≤ k := by omega
        have hk1 : (k : Int) < n := by omega
        go_wp2
        go_quiet (fail)
        go_wp2
        · go_ret
          exact ⟨ret_b (by rw [← hr1.out, hd.out, hd'.out, eqI_cons]; simp_all), by first | exact drew_ex _ _ _ | exact drew_ex1 _ _⟩
        · go_roundw
          case rel => exact ⟨k + 1, by omega, by go_num, by rw [← hr1.out, hd.out, hd'.out, eqI_cons]; simp_all, by first | exact drew_ex _ _ _ | exact drew_ex1 _ _⟩
          case measure => simp [intOf]; omega
      · go_wp2
        go_ret
        exact ⟨ret_b (by rw [← hr.out.1, List.drop_of_length_le (by have := HLA.out; omega), List.drop_of_length_le (by have := HLB.out; omega)]; rfl), q, rfl⟩
  · have hne : ((n : Int) != m) = true := by simp; omega
    have hf : Hid (eqI xs ys = false) := by
      simp only [Hid, eqI, beq_eq_false_iff_ne]
      intro e; subst e; omega
    clear la lb ha hb
    go_enter Try.func21, Try.ntmps21
    go_wp2
    go_ret
    exact ⟨ret_b hf.out.symm, 0, rfl⟩

set_option maxHeartbeats 400000 in
theorem ints_any (A B : Option Addr) (n m c d : Nat) (xs ys : List Int) (L M : List Nat) (w : World) (hn : n ≤ 9223372036854775807) (hm : m ≤ 9223372036854775807) (ha : Ints w A n xs L) (hb : Ints w B m ys M) :
    Calls Try.prog 27 #[.slice A n c, .slice B m d] w fun e w' => e = .returned (.bool (eqI xs ys)) ∧ ∃ q, w' = w.drewN q := by
  have HA := Lib.hid ha
  have HB := Lib.hid hb
  have la := ha.len
  have lb := hb.len
  by_cases hnm : n = m
  · subst hnm
    have hne : ((n : Int) != n) = false := by simp
    have HLA := Lib.hid la
    have HLB := Lib.hid lb
    clear la lb ha hb
    go_enter Try.func27, Try.ntmps27
    go_wp2
    go_loopw [5] (fun i wr => ∃ k : Nat, k ≤ n ∧ i = .int .i64 k ∧ Hid (eqI (xs.drop k) (ys.drop k) = eqI xs ys ∧ ∃ q, wr = w.drewN q)) (fun i _ => n - (intOf i).toNat)
    case atStart => exact ⟨0, Nat.zero_le _, rfl, by simp, 0, rfl⟩
    case round =>
      obtain ⟨k, hk, rfl, hr⟩ := hrel
      obtain ⟨q, rfl⟩ := hr.out.2
      by_cases hlt : k < n
      · obtain ⟨b, off, rfl, _, hc⟩ := HA.out.at_ hlt
        obtain ⟨b', off', rfl, _, hc'⟩ := HB.out.at_ hlt
        have hd : Hid (xs.drop k = xs.getD k 0 :: xs.drop (k + 1)) := drop_cons (by have := HLA.out; omega)
        have hd' : Hid (ys.drop k = ys.getD k 0 :: ys.drop (k + 1)) := drop_cons (by have := HLB.out; omega)
        generalize xs.getD k 0 = x at hc hd
        generalize ys.getD k 0 = y at hc' hd'
        have hr1 := Lib.hid hr.out.1
        clear hr
        have hk0 : (0 : Int) ≤ k := by omega
        have hk1 : (k : Int) < n := by omega
        go_wp2
        go_quiet (fail)
        go_wp2
        · go_ret
          exact ⟨ret_b (by rw [← hr1.out, hd.out, hd'.out, eqI_cons]; simp_all), by first | exact drew_ex _ _ _ | exact drew_ex1 _ _⟩
        · go_roundw
          case rel => exact ⟨k + 1, by omega, by go_num, by rw [← hr1.out, hd.out, hd'.out, eqI_cons]; simp_all, by first | exact drew_ex _ _ _ | exact drew_ex1 _ _⟩
          case measure => simp [intOf]; omega
      · go_wp2
        go_ret
        exact ⟨ret_b (by rw [← hr.out.1, List.drop_of_length_le (by have := HLA.out; omega), List.drop_of_length_le (by have := HLB.out; omega)]; rfl), q, rfl⟩
  · have hne : ((n : Int) != m) = true := by simp; omega
    have hf : Hid (eqI xs ys = false) := by
      simp only [Hid, eqI, beq_eq_false_iff_ne]
      intro e; subst e; omega
    clear la lb ha hb
    go_enter Try.func27, Try.ntmps27
    go_wp2
    go_ret
    exact ⟨ret_b hf.out.symm, 0, rfl⟩

-- laws.markIntS
set_option maxHeartbeats 400000 in
theorem markIntS_acc (A : Option Addr) (n c : Nat) (zs : List Int) (L : List Nat) (base : Nat) (k : Int) (w : World) (hk0 : 0 ≤ k) (hk1 : k + n ≤ 4611686018427387904) (h : Ints w A n zs L) (ho : Own w base L) :
    Calls Try.prog 22 #[.slice A n c, .int .i64 k] w fun e w' => e = .returned (.int .i64 (k + n)) ∧ Ints w' A n (marks k n) L ∧ Own w' base L ∧ Only L w w' := by
  have H := Lib.hid h
  have HO := Lib.hid ho
  clear h ho
  go_enter Try.func22, Try.ntmps22
  go_wp2
  go_loopw [1, 5] (fun q i wr => ∃ j : Nat, j ≤ n ∧ i = .int .i64 j ∧ q = .int .i64 (k + j) ∧ Hid (Ints wr A n (marks k j ++ zs.drop j) L ∧ Own wr base L ∧ Only L w wr)) (fun _ i _ => n - (intOf i).toNat)
  case atStart => exact ⟨0, Nat.zero_le _, rfl, by simp, by simpa [marks] using H.out, HO.out, Only.refl _ _⟩
  case round =>
    obtain ⟨j, hj, rfl, rfl, hr⟩ := hrel
    by_cases hlt : j < n
    · obtain ⟨hI, hO, hN⟩ := hr.out
      have hl : n = zs.length := by have := hI.len; simp at this; omega
      obtain ⟨b, off, rfl, hbL, hc⟩ := hI.at_ hlt
      have hf := hO.frozen hbL (off + j)
      have HS : Hid (Ints (wr.setCell ⟨b, off + j, none⟩ (.int .i64 (k + j))) (some ⟨b, off, none⟩) n (marks k (j + 1) ++ zs.drop (j + 1)) L) := by
        have e : (marks k j ++ zs.drop j).set j (k + j) = marks k (j + 1) ++ zs.drop (j + 1) := by
          simp only [marks, List.range_succ, List.map_append, List.map_cons, List.map_nil]
          rw [List.set_append_right _ _ (by simp), drop_cons (d := 0) (by omega)]
          simp
        have := Sl.set hI j (by simp; omega) (.int .i64 (k + j))
        rw [← List.map_set, e] at this
        exact this
      have HW : Hid (Own (wr.setCell ⟨b, off + j, none⟩ (.int .i64 (k + j))) base L) := hO.setCell _ _ _
      have HN : Hid (Only L w (wr.setCell ⟨b, off + j, none⟩ (.int .i64 (k + j)))) := hN.setCell hbL _
      clear hI hO hN hr hl
      generalize (marks k j ++ zs.drop j).getD j 0 = z at hc
      go_wp2
      go_roundw
      case rel => exact ⟨j + 1, by omega, by go_num, by go_num, HS.out, HW.out, HN.out⟩
      case measure => simp [intOf]; omega
    · obtain rfl : j = n := by omega
      have hr' : Hid (Ints wr A j (marks k j) L ∧ Own wr base L ∧ Only L w wr) := by
        have := hr.out
        rwa [List.drop_of_length_le (by have := H.out.len; omega), List.append_nil] at this
      go_wp2
      go_ret
      exact ⟨rfl, hr'.out⟩

-- laws.heldIntS
set_option maxHeartbeats 400000 in
theorem heldIntS_acc (A : Option Addr) (n c : Nat) (L : List Nat) (k : Int) (w : World) (hk0 : 0 ≤ k) (hk1 : k + n ≤ 4611686018427387904) (h : Ints w A n (marks k n) L) :
    Calls Try.prog 23 #[.slice A n c, .int .i64 k] w fun e w' => e = .returned (.int .i64 (k + n)) ∧ w = w' := by
  have H := Lib.hid h
  clear h
  go_enter Try.func23, Try.ntmps23
  go_wp2
  go_loop [1, 5] (fun q i => ∃ j : Nat, j ≤ n ∧ i = .int .i64 j ∧ q = .int .i64 (k + j)) (fun _ i => n - (intOf i).toNat)
  case atStart => exact ⟨0, Nat.zero_le _, rfl, by simp⟩
  case round =>
    obtain ⟨j, hj, rfl, rfl⟩ := hrel
    by_cases hlt : j < n
    · obtain ⟨b, off, rfl, hbL, hc⟩ := H.out.at_ hlt
      rw [marks_get k n j hlt] at hc
      have hne : ((k + (j : Int)) != (k + (j : Int))) = false := by simp
      go_wp2
      go_round
      case rel => exact ⟨j + 1, by omega, by go_num, by go_num⟩
      case measure => simp [intOf]; omega
    · obtain rfl : j = n := by omega
      go_wp2
      go_ret
      exact ⟨rfl, rfl⟩

set_option maxHeartbeats 1000000 in
theorem l13Put_any (A : Option Addr) (n c : Nat) (zs : List Int) (L : List Nat) (x : Int) (w : World) (hm : n ≤ 4398046511104) (h : Ints w A n zs L) :
    Calls Try.prog 44 #[.slice A n c, .int .i64 x] w (GivesInts w (put13 zs x)) := by
  have H := Lib.hid h
  have hl := Lib.hid h.len
  clear h
  go_enter Try.func44, Try.ntmps44
  go_wp2
  go_loopw [5, 6, 7] (fun v f i wr => ∃ (k : Nat) (d : Bool) (out : List Int), k ≤ n ∧ i = .int .i64 k ∧ f = .bool d ∧ out.length ≤ 2 * k ∧ Hid (AccI w v out wr) ∧ Hid (putL (zs.drop k) x d out = putL zs x false [])) (fun _ _ i _ => n - (intOf i).toNat)
  case atStart => exact ⟨0, false, [], Nat.zero_le _, rfl, rfl, by simp, AccI.made (Below.refl _ _), Lib.hid (by simp)⟩
  case round =>
    obtain ⟨k, d, out, hk, rfl, rfl, hol, HA, HE⟩ := hrel
    by_cases hlt : k < n
    · obtain ⟨b, off, rfl, hbL, hc⟩ := H.out.at_ hlt
      have HC := Lib.hid hc
      have hbl : b < w.heap.size := H.out.lt b hbL
      have hd : Hid (zs.drop k = zs.getD k 0 :: zs.drop (k + 1)) := drop_cons (by have := hl.out; omega)
      generalize zs.getD k 0 = z at HC hd hc
      have hc0 := (HA.out.below.cell (p := ⟨b, off + k, none⟩) hbl).trans HC.out
      clear hc
      cases d
      all_goals
        go_wp2_with (at_builtin; (refine app_int rfl _ _ rfl w _ _ _ rfl rfl (by assumption) (by first | omega | (simp; omega)) ?_; intro v1 w1 HA1; have hc1 := (HA1.out.below.cell (p := ⟨b, off + k, none⟩) hbl).trans HC.out))
      all_goals
        go_roundw
        case rel =>
          refine ⟨k + 1, _, _, by omega, by go_num, rfl, ?_, by assumption, ?_⟩
          · first | omega | (simp; omega)
          · rw [Hid, ← HE.out, hd.out]; simp_all [putL]; try (intros; omega)
        case measure => simp [intOf]; omega
    · have hf : Hid ((putL zs x false []) = (d, out)) := by
        rw [Hid, ← HE.out, List.drop_of_length_le (by have := hl.out; omega)]; rfl
      cases d
      all_goals
        go_wp2_with (at_builtin; refine app_int rfl _ _ rfl w _ _ _ rfl rfl (by assumption) (by omega) ?_; intro v1 w1 HA1)
        go_ret
      · rw [put13, hf.out]; exact HA1.out.gives
      · rw [put13, hf.out]; exact HA.out.gives
/-- a slice of ints that lies in a block of the call's own -/
structure LiveI (w : World) (v : Value) (zs : List Int) (L : List Nat) (base : Nat) : Prop where
  rep : ∃ A c, v = .slice A zs.length c ∧ Ints w A zs.length zs L
  own : Own w base L
theorem AccI.live {W w : World} {v : Value} {zs : List Int} (h : AccI W v zs w) : ∃ L, LiveI w v zs L W.heap.size := by
  obtain ⟨A, c, rfl, _, _⟩ := h.shape
  obtain ⟨_, L, hi, ho⟩ := h.ints
  exact ⟨L, ⟨A, c, rfl, hi⟩, ho⟩
section
variable {w w' : World} {v : Value} {zs : List Int} {L M : List Nat} {base : Nat}
theorem LiveI.keep (h : LiveI w v zs L base) (hk : ∀ b ∈ L, w'.heap[b]? = w.heap[b]?) : LiveI w' v zs L base := by
  obtain ⟨⟨A, c, hv, hi⟩, ho⟩ := h
  exact ⟨⟨A, c, hv, hi.keep hk⟩, ho.keep hk⟩
theorem LiveI.below (h : LiveI w v zs L base) (hb : Below w.heap.size w w') : LiveI w' v zs L base := h.keep (keep_below hb h.own.lt)
theorem LiveI.drewN (h : LiveI w v zs L base) (q : Nat) : LiveI (w.drewN q) v zs L base := h.keep fun _ _ => rfl
theorem LiveI.only (h : LiveI w v zs L base) (ho : Only M w w') (hd : ∀ b ∈ L, b ∉ M) : LiveI w' v zs L base := h.keep (ho.keep h.own.lt hd)
theorem LiveI.lt (h : LiveI w v zs L base) : ∀ b ∈ L, b < w.heap.size := h.own.lt
end
theorem apart_of {L M : List Nat} {s : Nat} (h1 : ∀ b ∈ L, s ≤ b) (h2 : ∀ b ∈ M, b < s) : ∀ b ∈ L, b ∉ M := fun b m m' => by have := h1 b m; have := h2 b m'; omega
theorem apart_of' {L M : List Nat} {s : Nat} (h1 : ∀ b ∈ L, b < s) (h2 : ∀ b ∈ M, s ≤ b) : ∀ b ∈ L, b ∉ M := fun b m m' => by have := h1 b m; have := h2 b m'; omega

-- the contracts again, over such slices
theorem eqIntS_live (u v : Value) (xs ys : List Int) (L M : List Nat) (b c : Nat) (w : World) (hn : xs.length ≤ 9223372036854775807) (hm : ys.length ≤ 9223372036854775807) (hx : LiveI w u xs L b) (hy : LiveI w v ys M c) :
    Calls Try.prog 21 #[u, v] w fun e w' => e = .returned (.bool (eqI xs ys)) ∧ ∃ q, w' = w.drewN q := by
  obtain ⟨A, c', rfl, hi⟩ := hx.rep
  obtain ⟨B, d', rfl, hj⟩ := hy.rep
  exact eqIntS_acc A B _ _ c' d' xs ys L M w hn hm hi hj
theorem markIntS_live (v : Value) (zs : List Int) (L : List Nat) (b : Nat) (k : Int) (w : World) (hk0 : 0 ≤ k) (hk1 : k + zs.length ≤ 4611686018427387904) (h : LiveI w v zs L b) :
    Calls Try.prog 22 #[v, .int .i64 k] w fun e w' => e = .returned (.int .i64 (k + zs.length)) ∧ LiveI w' v (marks k zs.length) L b ∧ Only L w w' := by
  obtain ⟨A, c', rfl, hi⟩ := h.rep
  refine (markIntS_acc A _ c' zs L b k w hk0 hk1 hi h.own).mono ?_
  rintro e w' ⟨rfl, h1, h2, h3⟩
  exact ⟨rfl, ⟨⟨A, c', by simp, by simpa using h1⟩, h2⟩, h3⟩
theorem heldIntS_live (v : Value) (n : Nat) (L : List Nat) (b : Nat) (k : Int) (w : World) (hk0 : 0 ≤ k) (hk1 : k + n ≤ 4611686018427387904) (h : LiveI w v (marks k n) L b) :
    Calls Try.prog 23 #[v, .int .i64 k] w fun e w' => e = .returned (.int .i64 (k + n)) ∧ w = w' := by
  obtain ⟨A, c', rfl, hi⟩ := h.rep
  simp only [marks_length] at hi ⊢
  exact heldIntS_acc A n c' L k w hk0 hk1 hi

/-- a slice of ints that came in -/
theorem ints_of_row {w : World} {a : Option Addr} {len cap : Nat} {zs : List Int}
    (h : (a = none ∧ len = 0 ∧ cap = 0 ∧ zs = []) ∨ ∃ x, a = some x ∧ len ≤ cap ∧ cap ≤ maxLen ∧ zs.length = cap ∧ (∀ i, i < zs.length → w.cell? (x.add i) = some (.int .i64 (zs.getD i 0))) ∧ ∀ n ∈ zs, (Lit.int .i64 n).wf = true) :
    ∃ L, Ints w a len (zs.take len) L ∧ len ≤ 9223372036854775807 := by
  rcases h with ⟨rfl, rfl, rfl, rfl⟩ | ⟨x, rfl, hl, hm, hz, hc, _⟩
  · exact ⟨[], Sl.zero, by omega⟩
  · have hlen : len ≤ 9223372036854775807 := by unfold maxLen at hm; omega
    rcases Nat.eq_zero_or_pos len with h0 | h0
    · subst h0; exact ⟨[], Sl.zero, by omega⟩
    · obtain ⟨b, off, sp⟩ := x
      have hsp : sp = none := by
        have h1 := hc 0 (by omega)
        have e : (⟨b, off, sp⟩ : Addr).add 0 = ⟨b, off, sp⟩ := by simp [Addr.add]
        rw [e] at h1
        cases sp with
        | none => rfl
        | some q =>
          simp only [World.cell?] at h1
          split at h1 <;> simp at h1
      subst hsp
      refine ⟨[b], ⟨by simp; omega, .inr ⟨h0, b, off, rfl, rfl, fun j u hu => ?_⟩⟩, hlen⟩
      have hj : j < len := by
        have := (List.getElem?_eq_some_iff.1 hu).1
        simp at this; omega
      have h1 := hc j (by omega)
      rw [add_lit0] at h1
      rw [h1]
      rw [List.getElem?_map, List.getElem?_take, if_pos hj, List.getElem?_eq_getElem (by omega)] at hu
      simp at hu
      rw [← hu]
      simp [show j < zs.length by omega]

end Go.Proofs.Ytfmplnebdldpdaa
