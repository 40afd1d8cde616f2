/- Contracts of DepthOf (the reference's and the program's), and that they agree. -/
import Derived.Test.YtfmplnebdldpdaaProg
import Derived.Test.YtfmplnebdldpdaaTypes
import Derived.Test.YtfmplnebdldpdaaInts
import Derived.RegionTactic
import Derived.BigRegion
namespace Go.Proofs.Ytfmplnebdldpdaa
open Go.RowKit

/-- the depth of a step that uses these, behind steps of these depths -/
def useDepth (prev : List Int) : List Int → Int → Int
  | [], d => d
  | u :: us, d => useDepth prev us (if 0 ≤ u ∧ u < prev.length then max d (prev.getD u.toNat 0 + 1) else d)
def depthL : List StepD → List Int → Int → Int
  | [], _, best => best
  | s :: r, prev, best => depthL r (prev ++ [useDepth prev s.uses 0]) (max best (useDepth prev s.uses 0))
def depthOf (l : List StepD) : Int := depthL l [] 0

/-- all depths are small -/
def Small (prev : List Int) : Prop := ∀ j : Nat, 0 ≤ prev.getD j 0 ∧ prev.getD j 0 ≤ j
theorem small_nil : Small [] := fun j => by simp
theorem useDepth_small (prev : List Int) (h : Small prev) : ∀ (us : List Int) (d : Int), 0 ≤ d → d ≤ prev.length → 0 ≤ useDepth prev us d ∧ useDepth prev us d ≤ prev.length
  | [], d, h0, h1 => ⟨h0, h1⟩
  | u :: us, d, h0, h1 => by
    rw [useDepth]
    have := h u.toNat
    refine useDepth_small prev h us _ ?_ ?_
    · split <;> omega
    · split <;> omega
theorem small_snoc (prev : List Int) (h : Small prev) (d : Int) (h0 : 0 ≤ d) (h1 : d ≤ prev.length) : Small (prev ++ [d]) := by
  intro j
  have := h j
  rcases Nat.lt_trichotomy j prev.length with hj | hj | hj
  · simpa [List.getElem?_append, hj] using this
  · subst hj; simp; omega
  · simp [List.getElem?_append, show ¬ j < prev.length by omega, show j - prev.length ≠ 0 by omega]

/-- a new row of n ints -/
structure Row (W : World) (n : Nat) (R : List Int) (w : World) : Prop where
  own : w.ownsRow W.heap.size 3 1 (.slice (some ⟨W.heap.size, 0, none⟩) n n) n (R.map (Value.int .i64))
  below : Below W.heap.size W w
section
variable {W : World} {n : Nat} {R : List Int} {w w' : World}
theorem Row.len (h : Row W n R w) : R.length = n := by have := h.own.1; simpa using this
theorem Row.later (h : Row W n R w) (hb : Below w.heap.size w w') : Row W n R w' :=
  ⟨h.own.kept (row := none) ⟨hb.os, hb.tape, hb.output, hb.size, fun k hk _ => hb.block k hk⟩ (by simp [Value.ownBlock]), h.below.trans (hb.mono h.below.size)⟩
theorem Row.alloc (h : Row W n R w) (o : Obj) : Row W n R (w.alloc o) := ⟨h.own.alloc o, h.below.alloc h.below.size o⟩
theorem Row.drewN (h : Row W n R w) (q : Nat) : Row W n R (w.drewN q) := ⟨h.own, below_drewN h.below q⟩
theorem Row.drew (h : Row W n R w) : Row W n R w.drew := ⟨h.own, h.below.drew⟩
theorem Row.cell (h : Row W n R w) {k : Nat} (hk : k < n) : w.cell? ⟨W.heap.size, k, none⟩ = some (.int .i64 (R.getD k 0)) := by
  rw [h.own.cellAt k (by omega)]
  have := h.len
  simp [show k < R.length by omega]
theorem Row.frozen (h : Row W n R w) (k : Nat) : w.frozen? ⟨W.heap.size, k, none⟩ = false := h.own.frozenAt k
theorem Row.set (h : Row W n R w) (k : Nat) (z : Int) : Row W n (R.set k z) (w.setCell ⟨W.heap.size, k, none⟩ (.int .i64 z)) :=
  ⟨by rw [List.map_set]; exact (h.own.stored k _).1, h.below.setCell (Nat.le_refl _) _⟩
end

def in1 (a lo hi : Int) : Bool := decide (lo ≤ a) && decide (a ≤ hi)
theorem l1In_any (a lo hi : Int) (w : World) : Calls Try.prog 34 #[.int .i64 a, .int .i64 lo, .int .i64 hi] w fun e w' => e = .returned (.bool (in1 a lo hi)) ∧ w = w' := by
  cases h0 : decide (lo ≤ a)
  all_goals
    go_enter Try.func34, Try.ntmps34
    go_wp2
    go_ret
    exact ⟨ret_b (by simp [in1, h0]), rfl⟩

set_option maxHeartbeats 1600000 in
theorem sDepthOf_any (A : Option Addr) (n c : Nat) (ds : List StepD) (L : List Nat) (w : World) (hn : n = ds.length) (hm : n ≤ 1048576) (h : Sli cStep w A ds L) :
    Calls Try.prog 10 #[.slice A n c] w fun e w' => e = .returned (.int .i64 (depthOf ds)) ∧ Below w.heap.size w w' := by
  have H := Lib.hid h
  have HN := Lib.hid hn
  clear h hn
  go_enter Try.func10, Try.ntmps10
  go_wp2
  go_loopw [3, 4, 5] (fun b v i wr => ∃ (k : Nat) (prev : List Int) (best : Int), k ≤ n ∧ i = .int .i64 k ∧ b = .int .i64 best ∧ 0 ≤ best ∧ best ≤ n ∧ Hid (AccI w v prev wr) ∧ Hid (prev.length = k ∧ Small prev) ∧ Hid (depthL (ds.drop k) prev best = depthOf ds)) (fun _ _ i _ => n - (intOf i).toNat)
  case atStart => exact ⟨0, [], 0, Nat.zero_le _, rfl, rfl, by omega, by omega, AccI.made (Below.refl _ _), ⟨rfl, small_nil⟩, Lib.hid rfl⟩
  case round =>
    obtain ⟨k, prev, best, hk, rfl, rfl, hb0, hb1, HA, HP, HE⟩ := hrel
    obtain ⟨Ao, co, rfl, _, _⟩ := HA.out.shape
    by_cases hlt : k < n
    · have hkl : k < ds.length := by have := HN.out; omega
      obtain ⟨b, off, cs, Lk, rfl, hbL, hLk, hrep, hc⟩ := H.out.at_ hkl
      have hbl : b < w.heap.size := H.out.lt b hbL
      have HX : Hid (ds.drop k = ds[k] :: ds.drop (k + 1)) := List.drop_eq_getElem_cons _
      generalize ds[k] = x at *
      obtain ⟨A1, c1, L1, A2, c2, L2, rfl, hLL, _, _, _, _, _, hu1, hu2, hu⟩ := hrep
      have q3 : wr.cell? ⟨b, off + k * 4 + 3, none⟩ = _ := (HA.out.below.cell (p := ⟨b, off + (k * 4 + 3), none⟩) hbl).trans (hc 3 _ rfl)
      have HU := Lib.hid (hu.keep (keep_below HA.out.below (fun y m => H.out.lt y (hLk y (by rw [hLL]; simp [m])))))
      have HU2 := Lib.hid hu2
      have hul : x.uses.length ≤ 9223372036854775807 := by unfold maxLen at hu2; omega
      clear hc hu hu2
      obtain ⟨hpl, hps⟩ := HP.out
      obtain ⟨_, Lo, hio, _⟩ := HA.out.ints
      have HIO := Lib.hid hio
      have HD := Lib.hid (useDepth_small prev hps x.uses 0 (by omega) (by omega))
      have HPS := Lib.hid hps
      have HPL := Lib.hid hpl
      have hd1 := HD.out.1
      have hd2 : useDepth prev x.uses 0 ≤ k := by have := HD.out.2; rw [hpl] at this; exact this
      clear hio hpl hps
      go_wp2
      go_loop [6, 7, 8] (fun d j _ => ∃ (q : Nat) (t : Int), q ≤ x.uses.length ∧ j = .int .i64 q ∧ d = .int .i64 t ∧ 0 ≤ t ∧ t ≤ k ∧ Hid (useDepth prev (x.uses.drop q) t = useDepth prev x.uses 0)) (fun _ j _ => x.uses.length - (intOf j).toNat)
      case atStart => exact ⟨0, 0, Nat.zero_le _, rfl, rfl, by omega, by omega, Lib.hid (by simp)⟩
      case round =>
        obtain ⟨q, t, hq, rfl, rfl, ht0, ht1, HT⟩ := hrel
        by_cases hqt : q < x.uses.length
        · obtain ⟨b2, off2, cs2, _, rfl, _, _, hr2, hc2⟩ := HU.out.at_ hqt
          have HQ : Hid (x.uses.drop q = x.uses[q] :: x.uses.drop (q + 1)) := List.drop_eq_getElem_cons _
          generalize x.uses[q] = u at *
          obtain ⟨rfl, _⟩ := hr2
          have p0 := hc2 0 _ rfl
          simp only [show intC.size = 1 from rfl, Nat.mul_one, Nat.add_zero] at p0
          clear hc2
          have HTn : Hid (useDepth prev (x.uses.drop (q + 1)) (if 0 ≤ u ∧ u < (k : Int) then max t (prev.getD u.toNat 0 + 1) else t) = useDepth prev x.uses 0) := by
            rw [Hid, ← HT.out, HQ.out, useDepth, HPL.out]
          cases hin : in1 u 0 ((k : Int) - 1)
          · have hcond : ¬ (0 ≤ u ∧ u < (k : Int)) := by simp [in1] at hin; omega
            rw [if_neg hcond] at HTn
            go_wp2_with (go_at_call 34; refine (l1In_any _ _ _ _).mono ?_; rintro e w' ⟨rfl, rfl⟩; rw [hin])
            go_round
            case rel => exact ⟨q + 1, t, by omega, by go_num, rfl, by omega, by omega, HTn⟩
            case measure => simp [intOf]; omega
          · have hcond : 0 ≤ u ∧ u < (k : Int) := by simp [in1] at hin; omega
            rw [if_pos hcond] at HTn
            obtain ⟨u, rfl⟩ := Int.eq_ofNat_of_zero_le hcond.1
            have huk : u < prev.length := by have := HPL.out; omega
            obtain ⟨b3, off3, rfl, _, hc3⟩ := HIO.out.at_ huk
            have hsm := HPS.out u
            simp only [Int.toNat_natCast] at HTn
            generalize prev.getD u 0 = z at hc3 hsm HTn
            have hu0 : (0 : Int) ≤ u := by omega
            have hu1 : (u : Int) < prev.length := by omega
            have hcond2 := hcond.2
            go_wp2_with (go_at_call 34; refine (l1In_any _ _ _ _).mono ?_; rintro e w' ⟨rfl, rfl⟩; rw [hin])
            go_round
            case rel => exact ⟨q + 1, max t (z + 1), by omega, by go_num, congrArg (Value.int .i64) (by split <;> omega), by omega, by omega, HTn⟩
            case measure => simp [intOf]; omega
        · have e : Hid (useDepth prev x.uses 0 = t) := by rw [Hid, ← HT.out, List.drop_of_length_le (by omega)]; rfl
          have HEn : Hid (depthL (ds.drop (k + 1)) (prev ++ [t]) (max best t) = depthOf ds) := by rw [Hid, ← HE.out, HX.out, depthL, e.out]
          have HPn : Hid ((prev ++ [t]).length = k + 1 ∧ Small (prev ++ [t])) := ⟨by simp [HPL.out], small_snoc prev HPS.out t ht0 (by rw [HPL.out]; exact ht1)⟩
          have hlen : prev.length < 17592186044416 := by have := HPL.out; omega
          go_wp2_with (at_builtin; refine app_int rfl _ _ rfl w _ _ _ rfl rfl (by assumption) (by omega) ?_; intro v1 w1 HA1)
          go_roundw
          case rel => exact ⟨k + 1, prev ++ [t], max best t, by omega, by go_num, congrArg (Value.int .i64) (by split <;> omega), by omega, by omega, HA1, HPn, HEn⟩
          case measure => simp [intOf]; omega
    · have e : Hid (depthOf ds = best) := by rw [Hid, ← HE.out, List.drop_of_length_le (by have := HN.out; omega)]; rfl
      go_wp2
      go_ret
      exact ⟨ret_i e.out.symm, HA.out.below⟩

set_option maxHeartbeats 1600000 in
theorem iDepthOf_any (A : Option Addr) (n c : Nat) (ds : List StepD) (L : List Nat) (w : World) (hn : n = ds.length) (hm : n ≤ 1048576) (h : Sli cStep w A ds L) :
    Calls Try.prog 12 #[.slice A n c] w fun e w' => e = .returned (.int .i64 (depthOf ds)) ∧ Below w.heap.size w w' := by
  obtain ⟨i0, hi, hz0, hz1, hz2⟩ := info_parts Try.infoInt
  have H := Lib.hid h
  have HN := Lib.hid hn
  clear h hn
  go_enter Try.func12, Try.ntmps12
  go_wp2_with (at_make; refine wpList_make_full _ rfl _ _ 32 rfl w.heap.size 3 i0 _ 1 Try.underlying32 hi hz0 hz1 .i64 .i64 _ _ n rfl rfl rfl rfl (by rw [hz2]; omega) (by unfold maxLen; omega) (Nat.le_refl _) ?_; intro w1 hown hg)
  have hb : Below w.heap.size w w1 := (Below.refl _ _).grown hg (Nat.le_refl _) (by simp)
  have HO : Hid (Row w n (List.replicate n 0) w1) := by
    refine ⟨?_, hb⟩
    have e : (madeCells (Value.int .i64 0).cells (n * 1)).toList = (List.replicate n (0 : Int)).map (Value.int .i64) := by
      rw [Nat.mul_one, show (Value.int .i64 0).cells = #[Value.int .i64 0] from rfl, toList_madeCells_one]; simp
    rw [e] at hown
    exact hown
  clear hown hg hb
  go_wp2
  go_loopw [4, 14] (fun b i wr => ∃ (k : Nat) (R : List Int) (best : Int), k ≤ n ∧ i = .int .i64 k ∧ b = .int .i64 best ∧ 0 ≤ best ∧ best ≤ n ∧ Hid (Row w n R wr) ∧ Hid (Small (R.take k) ∧ ∀ j, k ≤ j → R.getD j 0 = 0) ∧ Hid (depthL (ds.drop k) (R.take k) best = depthOf ds)) (fun _ i _ => n - (intOf i).toNat)
  case atStart => exact ⟨0, _, 0, Nat.zero_le _, rfl, rfl, by omega, by omega, HO, ⟨small_nil, fun j _ => by by_cases hj : j < n <;> simp [hj]⟩, Lib.hid rfl⟩
  case round =>
    obtain ⟨k, R, best, hk, rfl, rfl, hb0, hb1, HR, HP, HE⟩ := hrel
    by_cases hlt : k < n
    · have hkl : k < ds.length := by have := HN.out; omega
      obtain ⟨b, off, cs, Lk, rfl, hbL, hLk, hrep, hc⟩ := H.out.at_ hkl
      have hbl : b < w.heap.size := H.out.lt b hbL
      have HX : Hid (ds.drop k = ds[k] :: ds.drop (k + 1)) := List.drop_eq_getElem_cons _
      generalize ds[k] = x at *
      obtain ⟨A1, c1, L1, A2, c2, L2, rfl, hLL, _, _, _, _, _, hu1, hu2, hu⟩ := hrep
      have q0 : wr.cell? ⟨b, off + k * 4, none⟩ = _ := (HR.out.below.cell (p := ⟨b, off + (k * 4 + 0), none⟩) hbl).trans (hc 0 _ rfl)
      have q1 : wr.cell? ⟨b, off + k * 4 + 1, none⟩ = _ := (HR.out.below.cell (p := ⟨b, off + (k * 4 + 1), none⟩) hbl).trans (hc 1 _ rfl)
      have q2 : wr.cell? ⟨b, off + k * 4 + 2, none⟩ = _ := (HR.out.below.cell (p := ⟨b, off + (k * 4 + 2), none⟩) hbl).trans (hc 2 _ rfl)
      have q3 : wr.cell? ⟨b, off + k * 4 + 3, none⟩ = _ := (HR.out.below.cell (p := ⟨b, off + (k * 4 + 3), none⟩) hbl).trans (hc 3 _ rfl)
      have HU := Lib.hid hu
      have hul : x.uses.length ≤ 9223372036854775807 := by unfold maxLen at hu2; omega
      have hLL2 : Hid (∀ y ∈ L2, y < w.heap.size) := fun y m => H.out.lt y (hLk y (by rw [hLL]; simp [m]))
      clear hc hu hu2
      obtain ⟨hps, hzero⟩ := HP.out
      have hRl := HR.out.len
      have htl : (R.take k).length = k := by simp; omega
      have HTL := Lib.hid htl
      have HRL := Lib.hid hRl
      have HD := Lib.hid (useDepth_small (R.take k) hps x.uses 0 (by omega) (by omega))
      have HPS := Lib.hid hps
      have HZ := Lib.hid hzero
      have hRk : Hid (R.set k 0 = R) := by
        apply List.ext_getElem?
        intro j
        rw [List.getElem?_set]
        split
        · rename_i e; subst e
          have := hzero k (Nat.le_refl _)
          simp [show k < R.length by omega] at this ⊢
          exact this.symm
        · rfl
      clear hps hzero hRl htl
      go_wp2
      go_loopw [22] (fun j wr => ∃ (q : Nat) (t : Int), q ≤ x.uses.length ∧ j = .int .i64 q ∧ 0 ≤ t ∧ t ≤ k ∧ Hid (Row w n (R.set k t) wr) ∧ Hid (useDepth (R.take k) (x.uses.drop q) t = useDepth (R.take k) x.uses 0)) (fun j _ => x.uses.length - (intOf j).toNat)
      case atStart => exact ⟨0, 0, Nat.zero_le _, rfl, by omega, by omega, by rw [hRk.out]; exact HR.out.alloc _, Lib.hid (by simp)⟩
      case round =>
        obtain ⟨q, t, hq, rfl, ht0, ht1, HR2, HT⟩ := hrel
        by_cases hqt : q < x.uses.length
        · obtain ⟨b2, off2, cs2, _, rfl, hb2, _, hr2, hc2⟩ := HU.out.at_ hqt
          have HQ : Hid (x.uses.drop q = x.uses[q] :: x.uses.drop (q + 1)) := List.drop_eq_getElem_cons _
          generalize x.uses[q] = u at *
          obtain ⟨rfl, _⟩ := hr2
          have p0 := (HR2.out.below.cell (p := ⟨b2, off2 + (q * intC.size + 0), none⟩) (hLL2.out b2 hb2)).trans (hc2 0 _ rfl)
          simp only [show intC.size = 1 from rfl, Nat.mul_one, Nat.add_zero] at p0
          clear hc2
          have HTn : Hid (useDepth (R.take k) (x.uses.drop (q + 1)) (if 0 ≤ u ∧ u < (k : Int) then max t ((R.take k).getD u.toNat 0 + 1) else t) = useDepth (R.take k) x.uses 0) := by
            rw [Hid, ← HT.out, HQ.out, useDepth, HTL.out]
          by_cases hcond : 0 ≤ u ∧ u < (k : Int)
          · rw [if_pos hcond] at HTn
            obtain ⟨u, rfl⟩ := Int.eq_ofNat_of_zero_le hcond.1
            have huk : u < k := by omega
            have c1' := HR2.out.cell (k := u) (by omega)
            have c2' := HR2.out.cell hlt
            have z1 := HR2.out.frozen k
            have hsm := HPS.out u
            simp only [Int.toNat_natCast] at HTn
            rw [show (R.set k t).getD u 0 = (R.take k).getD u 0 by simp [List.getElem?_set, show k ≠ u by omega, List.getElem?_take, huk]] at c1'
            rw [show (R.set k t).getD k 0 = t by have := HRL.out; simp [List.getElem?_set, show k < R.length by omega]] at c2'
            generalize (R.take k).getD u 0 = z at c1' hsm HTn
            have hu0 : (0 : Int) ≤ u := by omega
            have hu1 : (u : Int) < n := by omega
            have k0 : (0 : Int) ≤ k := by omega
            have k1 : (k : Int) < n := by omega
            have hcond2 := hcond.2
            clear hcond
            have HS := Lib.hid ((HR2.out.set k (if t < z + 1 then z + 1 else t)).drew)
            have hmx : Hid ((if t < z + 1 then z + 1 else t) = max t (z + 1)) := by rw [Hid]; split <;> omega
            rw [List.set_set] at HS
            go_wp2
            go_region
            go_wp2
            go_roundw
            case rel => exact ⟨q + 1, max t (z + 1), by omega, by go_num, by omega, by omega, by rw [← hmx.out]; exact HS.out, HTn⟩
            case measure => simp [intOf]; omega
          · rw [if_neg hcond] at HTn
            by_cases hu0 : 0 ≤ u
            · have hu1 : ¬ u < (k : Int) := by omega
              clear hcond
              go_wp2
              go_roundw
              case rel => exact ⟨q + 1, t, by omega, by go_num, by omega, by omega, HR2, HTn⟩
              case measure => simp [intOf]; omega
            · clear hcond
              go_wp2
              go_roundw
              case rel => exact ⟨q + 1, t, by omega, by go_num, by omega, by omega, HR2, HTn⟩
              case measure => simp [intOf]; omega
        · have e : Hid (useDepth (R.take k) x.uses 0 = t) := by rw [Hid, ← HT.out, List.drop_of_length_le (by omega)]; rfl
          have htk : Hid ((R.set k t).take (k + 1) = R.take k ++ [t]) := by
            have hl := HRL.out
            rw [Hid, List.take_succ_eq_append_getElem (by simp; omega), List.take_set, List.set_eq_of_length_le (by simp; omega)]
            simp
          have HEn : Hid (depthL (ds.drop (k + 1)) ((R.set k t).take (k + 1)) (max best t) = depthOf ds) := by rw [Hid, ← HE.out, HX.out, depthL, e.out, htk.out]
          have HPn : Hid (Small ((R.set k t).take (k + 1)) ∧ ∀ j, k + 1 ≤ j → (R.set k t).getD j 0 = 0) := by
            refine ⟨by rw [htk.out]; exact small_snoc _ HPS.out t ht0 (by rw [HTL.out]; exact ht1), fun j hj => ?_⟩
            have := HZ.out j (by omega)
            simpa [List.getElem?_set, show k ≠ j by omega] using this
          have c2' := HR2.out.cell hlt
          rw [show (R.set k t).getD k 0 = t by have := HRL.out; simp [List.getElem?_set, show k < R.length by omega]] at c2'
          go_wp2
          go_roundw
          case rel => exact ⟨k + 1, _, max best t, by omega, by go_num, congrArg (Value.int .i64) (by split <;> omega), by omega, by omega, HR2, HPn, HEn⟩
          case measure => simp [intOf]; omega
    · have e : Hid (depthOf ds = best) := by rw [Hid, ← HE.out, List.drop_of_length_le (by have := HN.out; omega)]; rfl
      go_wp2
      go_ret
      exact ⟨ret_i e.out.symm, HR.out.below⟩

end Go.Proofs.Ytfmplnebdldpdaa
