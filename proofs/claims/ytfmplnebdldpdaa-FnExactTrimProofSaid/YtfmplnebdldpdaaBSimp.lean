/- The abstract machine's equations, one for each kind of operation, for simp. -/
import Derived.Test.YtfmplnebdldpdaaBState
namespace Go.Proofs.Ytfmplnebdldpdaa
section
variable {tt : Nat → Option TI} {S : Ctx} {all : List Oper} {key : Nat} {d : Option Nat} {ty : TypeId} {pos : String} {af : Array Edge} {r : List Oper} {K : St → Prop} {st : St}
theorem oS_nil : opsS tt S all key [] K st = K st := _root_.id rfl
theorem oS_move (x : Operand) : opsS tt S all key (⟨d, .move x, ty, pos, af, none⟩ :: r) K st = opsS tt S all (key + 16) r K (st.put d (st.ev tt ty x)) := _root_.id rfl
theorem oS_assign (x : Operand) : opsS tt S all key (⟨d, .assign x, ty, pos, af, none⟩ :: r) K st = opsS tt S all (key + 16) r K (st.put d (st.ev tt ty x)) := _root_.id rfl
def pickK (v a b : SV) (K : SV → Prop) : Prop := if isBool v = true then (if getBool v = true then K a else K b) else False
theorem oS_pick (c a b : Operand) : opsS tt S all key (⟨d, .pick c a b, ty, pos, af, none⟩ :: r) K st = pickK (st.ev tt 0 c) (st.ev tt ty a) (st.ev tt ty b) (putK d (opsS tt S all (key + 16) r K) st) := by
  simp only [opsS, opG, gslot, opS, goCall, opE, pickK]
  generalize st.ev tt 0 c = v
  unfold isBool
  split
  · simp only [getBool, optK, if_true]
    split <;> simp [putU, putK, St.app, updAll, *]
  · simp [optK]
theorem oS_alloc (t : TypeId) : opsS tt S all key (⟨d, .alloc t, ty, pos, af, none⟩ :: r) K st = optK ((zeroOf (tt t)).map fun z => (SV.bp key 0, [(key, Ob.box t z)])) (putU d (opsS tt S all (key + 16) r K) st) := _root_.id rfl
def boxV (key : Nat) (t : TypeId) : SV → Option (SV × List (Nat × Ob))
  | .p _ cs => some (.bp key 0, [(key, .box t cs)])
  | _ => none
theorem oS_box (t : TypeId) (x : Operand) : opsS tt S all key (⟨d, .box t x, ty, pos, af, none⟩ :: r) K st = optK (boxV key t (st.ev tt t x)) (putU d (opsS tt S all (key + 16) r K) st) := _root_.id rfl
def buildV (tt : Nat → Option TI) (st : St) (parts : List (Nat × Operand)) : Option TI → Option SV
  | some (.strct fs _ z) => (fillS fs z (parts.map (partS tt st fs z))).map (.p true)
  | _ => none
theorem pure1_K (v : Option SV) : optK (pure1 v) (putU d K st) = optK v (putK d K st) := by cases v <;> rfl
theorem oS_build (t : TypeId) (parts : Array (Nat × Operand)) : opsS tt S all key (⟨d, .build t parts, ty, pos, af, none⟩ :: r) K st = optK (buildV tt st parts.toList (tt t)) (putK d (opsS tt S all (key + 16) r K) st) := by
  rw [← pure1_K]
  simp only [opsS, opG, gslot, opS, goCall, opE, buildV]
  split <;> rename_i h
  · rw [h]; simp [pure1, Option.map_map]; rfl
  · split
    · rename_i h2; exact absurd h2 (h _ _ _)
    · rfl
def bslV (st : St) (key len : Nat) (is : List Nat) (xs : List SV) (e : Nat) : Option TI → Option (SV × List (Nat × Ob))
  | some (.slice _ m _ _) => (elemsS st m xs).bind fun a => if is = List.range len ∧ len * m ≤ 16777216 ∧ a.2.1.Nodup then some (.p false [.row key], goneAll a.2.1 ++ [(key, .row e m a.1 a.2.2)]) else none
  | _ => none
def elemId : Option TI → Nat
  | some (.slice e _ _ _) => e
  | _ => 0
theorem oS_bsl (t : TypeId) (len : Nat) (parts : Array (Nat × Operand)) : opsS tt S all key (⟨d, .buildSlice t len parts, ty, pos, af, none⟩ :: r) K st = optK (bslV st key len (parts.toList.map (·.1)) (parts.toList.map fun p => st.ev tt (elemId (tt t)) p.2) (elemId (tt t)) (tt t)) (putU d (opsS tt S all (key + 16) r K) st) := by
  simp only [opsS, opG, gslot, opS, goCall, opE, bslV, elemId]
  split <;> rename_i h
  · rw [h]
  · split
    · rename_i h2; exact absurd h2 (h _ _ _ _)
    · rfl
theorem oS_load (t : TypeId) (x : Operand) : opsS tt S all key (⟨d, .load t x, ty, pos, af, none⟩ :: r) K st = optK (loadV st (tt t) (st.ev tt 0 x)) (putK d (opsS tt S all (key + 16) r K) st) := pure1_K _
def stoK (d : Option Nat) (K : St → Prop) (st : St) (u : List (Nat × Ob)) : Prop := K ((st.put d .und).app u)
theorem oS_store (t : TypeId) (x v : Operand) : opsS tt S all key (⟨d, .store t x v, ty, pos, af, none⟩ :: r) K st = optK (storeV st (tt t) (st.ev tt 0 x) (st.ev tt t v)) (stoK d (opsS tt S all (key + 16) r K) st) := by
  simp only [opsS, opG, gslot, opS, goCall, opE]
  cases storeV st (tt t) (st.ev tt 0 x) (st.ev tt t v) <;> rfl
def nckV : SV → Option SV
  | .bp k i => some (.bp k i)
  | .rp k m i j => some (.rp k m i j)
  | .ep e i => some (.ep e i)
  | _ => none
theorem oS_nck (x : Operand) : opsS tt S all key (⟨d, .nilCheck x, ty, pos, af, none⟩ :: r) K st = optK (nckV (st.ev tt 0 x)) (putK d (opsS tt S all (key + 16) r K) st) := by
  simp only [opsS, opG, gslot, opS, goCall, opE, ← pure1_K, nckV]
  cases st.ev tt 0 x <;> rfl
theorem oS_bin (op : BinOp) (t u : TypeId) (x y : Operand) : opsS tt S all key (⟨d, .binOp op t x y u, ty, pos, af, none⟩ :: r) K st = optK (binV (tt t) op (st.ev tt t x) (st.ev tt t y)) (putK d (opsS tt S all (key + 16) r K) st) := pure1_K _
theorem oS_un (op : UnOp) (t : TypeId) (x : Operand) : opsS tt S all key (⟨d, .unOp op t x, ty, pos, af, none⟩ :: r) K st = optK (unV op (st.ev tt 0 x)) (putK d (opsS tt S all (key + 16) r K) st) := pure1_K _
theorem oS_conv (s t : TypeId) (x : Operand) : opsS tt S all key (⟨d, .convert s t x, ty, pos, af, none⟩ :: r) K st = optK (convV (tt s) (tt t) (st.ev tt 0 x)) (putK d (opsS tt S all (key + 16) r K) st) := pure1_K _
theorem oS_make (t : TypeId) (n c : Operand) : opsS tt S all key (⟨d, .makeSlice t n c, ty, pos, af, none⟩ :: r) K st = optK (makeV key (tt t) (st.ev tt 0 n) (st.ev tt 0 c)) (putU d (opsS tt S all (key + 16) r K) st) := _root_.id rfl
theorem oS_slice (t : TypeId) (x : Operand) (lo hi : Option Operand) : opsS tt S all key (⟨d, .slice t x lo hi none, ty, pos, af, none⟩ :: r) K st = optK (sliceV (tt t) (lo.map (st.ev tt 0)) (hi.map (st.ev tt 0)) (st.ev tt 0 x)) (putK d (opsS tt S all (key + 16) r K) st) := pure1_K _
def fldK (fs : Option TI) (f : Nat) : Option Nat := match fs with | some (.strct fs _ _) => (fs[f]?).map FI.off | _ => none
def fadV (fs : Option TI) (f : Nat) (v : SV) : Option SV := (fldK fs f).bind fun o => ptrAdd o v
theorem oS_fad (t : TypeId) (x : Operand) (f : Nat) : opsS tt S all key (⟨d, .fieldAddr t x f, ty, pos, af, none⟩ :: r) K st = optK (fadV (tt t) f (st.ev tt 0 x)) (putK d (opsS tt S all (key + 16) r K) st) := by
  rw [← pure1_K]
  simp only [opsS, opG, gslot, opS, goCall, opE, fadV, fldK]
  split <;> rename_i h
  · rw [h]; simp only [Option.bind_map]; rfl
  · split
    · rename_i h2; exact absurd h2 (h _ _ _)
    · rfl
def fieV (fs : Option TI) (f : Nat) (v : SV) : Option SV := match fs with | some (.strct fs _ _) => fieldV fs f v | _ => none
theorem oS_fie (t : TypeId) (x : Operand) (f : Nat) : opsS tt S all key (⟨d, .field t x f, ty, pos, af, none⟩ :: r) K st = optK (fieV (tt t) f (st.ev tt 0 x)) (putK d (opsS tt S all (key + 16) r K) st) := by
  rw [← pure1_K]
  simp only [opsS, opG, gslot, opS, goCall, opE, fieV]
  split <;> rename_i h
  · rw [h]
  · split
    · rename_i h2; exact absurd h2 (h _ _ _)
    · rfl
def iadV (st : St) (t : Option TI) (x i : SV) : Option SV := match t with | some (.slice _ m _ _) => idxAddr st m x i | _ => none
theorem oS_iad (t : TypeId) (x i : Operand) : opsS tt S all key (⟨d, .indexAddr t x i, ty, pos, af, none⟩ :: r) K st = optK (iadV st (tt t) (st.ev tt 0 x) (st.ev tt 0 i)) (putK d (opsS tt S all (key + 16) r K) st) := by
  rw [← pure1_K]
  simp only [opsS, opG, gslot, opS, goCall, opE, iadV]
  split <;> rename_i h
  · rw [h]
  · split
    · rename_i h2; exact absurd h2 (h _ _ _ _)
    · rfl
theorem oS_idx (t : TypeId) (x i : Operand) : opsS tt S all key (⟨d, .index t x i, ty, pos, af, none⟩ :: r) K st = optK (idxStr (tt t) (st.ev tt 0 x) (st.ev tt 0 i)) (putK d (opsS tt S all (key + 16) r K) st) := pure1_K _
theorem oS_ext (x : Operand) (i : Nat) : opsS tt S all key (⟨d, .extract x i, ty, pos, af, none⟩ :: r) K st = optK (extV i (st.ev tt 0 x)) (putK d (opsS tt S all (key + 16) r K) st) := pure1_K _
theorem oS_blt (b : Builtin) (args : Array Operand) (ts : Array TypeId) : opsS tt S all key (⟨d, .call ⟨.builtin b, args, ts⟩, ty, pos, af, none⟩ :: r) K st = optK (bltV tt st key b ts.toList (evs tt st ts.toList args.toList)) (putU d (opsS tt S all (key + 16) r K) st) := _root_.id rfl
theorem oS_call (f : FuncId) (args : Array Operand) (ts : Array TypeId) : opsS tt S all key (⟨d, .call ⟨.value (.func f), args, ts⟩, ty, pos, af, none⟩ :: r) K st = optK (svArgs st (evs tt st ts.toList args.toList)) (callK S f key d (opsS tt S all (key + 16) r K) st) := _root_.id rfl
def gOf (all : List Oper) (j : Nat) : Option Nat := (all[j]?).bind (·.dst)
def gKo (st : St) (t : Option Nat) (want : Bool) (A B : Prop) : Prop := match t with | some t => gK (st.sl t) want A B | none => B
theorem oS_guard (op : Op) (j : Nat) (w : Bool) : opsS tt S all key (⟨d, op, ty, pos, af, some (j, w)⟩ :: r) K st = gKo st (gOf all j) w (opsS tt S all key (⟨d, op, ty, pos, af, none⟩ :: r) K st) (opsS tt S all (key + 16) r K (st.put d .und)) := by
  simp only [opsS, opG, gslot, gKo, gOf]
  split <;> rename_i h
  · simp at h
  · simp only [Option.some.injEq, Prod.mk.injEq] at h; rw [h.1]
  · simp only [Option.some.injEq, Prod.mk.injEq] at h; rw [h.1, h.2]; rfl
theorem putK_eq (v : SV) : putK d K st v = K (st.put d v) := _root_.id rfl
theorem putU_eq (v : SV) (u : List (Nat × Ob)) : putU d K st (v, u) = K ((st.put d v).app u) := _root_.id rfl
theorem stoK_eq (u : List (Nat × Ob)) : stoK d K st u = K ((st.put d .und).app u) := _root_.id rfl
theorem optK_some {α : Type} (v : α) (K : α → Prop) : optK (some v) K = K v := _root_.id rfl
theorem optK_none {α : Type} (K : α → Prop) : optK none K = False := _root_.id rfl
theorem endK_eq (n m : Nat) (sl : Nat → SV) (ob : Nat → Ob) : endK n K ⟨sl, ob, m⟩ = K ⟨sl, ob, n⟩ := _root_.id rfl
theorem regS_eq (ops : List Oper) (sl : Nat → SV) (ob : Nat → Ob) (n : Nat) : regS tt S ops K ⟨sl, ob, n⟩ = opsS tt S ops n ops (endK (n + 16 * ops.length) K) ⟨sl, ob, n⟩ := _root_.id rfl
theorem put_some (sl : Nat → SV) (ob : Nat → Ob) (n t : Nat) (v : SV) : St.put ⟨sl, ob, n⟩ (some t) v = ⟨upd sl t v, ob, n⟩ := _root_.id rfl
theorem put_none (v : SV) : St.put st none v = st := _root_.id rfl
theorem app_nil (sl : Nat → SV) (ob : Nat → Ob) (n : Nat) : St.app ⟨sl, ob, n⟩ [] = ⟨sl, ob, n⟩ := _root_.id rfl
theorem app_cons (sl : Nat → SV) (ob : Nat → Ob) (n : Nat) (p : Nat × Ob) (u : List (Nat × Ob)) : St.app ⟨sl, ob, n⟩ (p :: u) = St.app ⟨sl, upd ob p.1 p.2, n⟩ u := _root_.id rfl
theorem upd_at {α : Type} (f : Nat → α) (k j : Nat) (v : α) : upd f k v j = if j = k then v else f j := _root_.id rfl
end
section
variable {tt : Nat → Option TI} {S : Ctx} {Q : Ex → St → Prop} {st : St}
theorem sw_skip : swp tt S .skip Q st = Q .normal st := _root_.id rfl
theorem sw_region (id : Nat) (ops : Array Oper) (dr : Bool) : swp tt S (.region id ops dr) Q st = regS tt S ops.toList (Q .normal) st := _root_.id rfl
theorem sw_seq (a b : Code) : swp tt S (.seq a b) Q st = swp tt S a (thenK (swp tt S b Q) Q) st := _root_.id rfl
theorem sw_cond (c : Operand) (a b : Code) : swp tt S (.cond c a b) Q st = condK (st.ev tt 0 c) (swp tt S a Q st) (swp tt S b Q st) := _root_.id rfl
theorem sw_block (id : Nat) (b : Code) : swp tt S (.block id b) Q st = swp tt S b (blockK id Q) st := _root_.id rfl
theorem sw_exit (id : Nat) : swp tt S (.exit id) Q st = Q (.exit id) st := _root_.id rfl
theorem sw_ret : swp tt S .ret Q st = Q .ret st := _root_.id rfl
theorem th_n (k : St → Prop) : thenK k Q .normal st = k st := _root_.id rfl
theorem th_e (k : St → Prop) (i : Nat) : thenK k Q (.exit i) st = Q (.exit i) st := _root_.id rfl
theorem th_r (k : St → Prop) : thenK k Q .ret st = Q .ret st := _root_.id rfl
theorem bl_n (i : Nat) : blockK i Q .normal st = Q .normal st := _root_.id rfl
theorem bl_r (i : Nat) : blockK i Q .ret st = Q .ret st := _root_.id rfl
theorem bl_e (i j : Nat) : blockK i Q (.exit j) st = if j = i then Q .normal st else Q (.exit j) st := _root_.id rfl
theorem ev_tmp (sl : Nat → SV) (ob : Nat → Ob) (n t s : Nat) : St.ev tt ⟨sl, ob, n⟩ t (.tmp s) = sl s := _root_.id rfl
theorem ev_const (t : Nat) (v : Value) : St.ev tt st t (.const v) = cvT (tt t) v := _root_.id rfl
theorem ev_func (t f : Nat) : St.ev tt st t (.func f) = .fn f := _root_.id rfl
theorem rk_r (rs : List ResultVar) (R : List (Bool × List CT) → Prop) : retK tt rs R .ret st = match resOf tt st rs with | some x => x.2.Nodup ∧ R x.1 | none => False := _root_.id rfl
theorem rk_n (rs : List ResultVar) (R : List (Bool × List CT) → Prop) : retK tt rs R .normal st = match resOf tt st rs with | some x => x.2.Nodup ∧ R x.1 | none => False := _root_.id rfl
end
attribute [go_sem] oS_nil oS_move oS_assign oS_pick oS_alloc oS_box oS_build oS_bsl oS_load oS_store oS_nck oS_bin oS_un oS_conv oS_make oS_slice oS_fad oS_fie oS_iad oS_idx oS_ext oS_blt oS_call oS_guard putK_eq putU_eq stoK_eq optK_some optK_none endK_eq regS_eq put_some put_none app_nil app_cons upd_at sw_skip sw_region sw_seq sw_cond sw_block sw_exit sw_ret th_n th_e th_r bl_n bl_r bl_e ev_tmp ev_const ev_func rk_r rk_n pickK boxV buildV bslV elemId nckV fldK fadV fieV iadV gOf gKo gK condK isBool getBool isUnd cvT zeroOf binV intV strV unV convV lenV idxAddr idxStr cut loadV splice sizeTI storeV ptrAdd fieldV fillS partS avT avTs elemsS goneAll appSrc appDst dstOk srcOk appV maxV sliceV hiB loB sizeSl isSlice isStr makeV extV pure1 bltV evs avArg avArgs svArg svArgs zipT resAV resAVs resOf callK bindRs bindCs resSV List.length_cons List.length_nil List.length_map List.getElem?_cons_zero List.getElem?_cons_succ List.getElem?_nil List.map_cons List.map_nil Option.bind_some Option.bind_none Option.map_some Option.map_none List.cons_append List.nil_append List.append_nil List.nodup_nil List.drop_zero List.drop_succ_cons List.drop_nil List.take_succ_cons List.take_zero List.take_nil List.set_cons_zero List.set_cons_succ List.range_zero Bool.and_true Bool.true_and Bool.and_self and_true true_and and_self Nat.zero_le Nat.le_refl beq_self_eq_true Option.getD_some ite_true ite_false Nat.zero_add Nat.lt_add_one Nat.zero_lt_succ eq_self or_false false_or and_false false_and or_self Nat.lt_irrefl true_or or_true List.not_mem_nil List.nodup_cons List.mem_cons Bool.false_eq_true if_true if_false decide_true decide_false Bool.not_true Bool.not_false Int.toNat_natCast ne_eq not_true_eq_false not_false_eq_true
end Go.Proofs.Ytfmplnebdldpdaa
