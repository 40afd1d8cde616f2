/- The types of the law files as data, and how their values lie in memory. Printed by gen.py. No program in sight. -/
import Derived.Test.YtfmplnebdldpdaaCodec
namespace Go.Proofs.Ytfmplnebdldpdaa
open Go.RowKit

structure FactD where
  rel : ByteArray
  args : List ByteArray
def cFact : Codec FactD where
  size := 2
  rep := fun w cs x L => ∃ A1 c1 L1, cs = [.string x.rel, .slice A1 x.args.length c1] ∧ L = L1 ∧ x.rel.size ≤ 9223372036854775807 ∧ x.args.length ≤ c1 ∧ c1 ≤ maxLen ∧ Sli strC w A1 x.args L1
  len := fun ⟨A1, c1, L1, h, hL, t0, n1, m1, s1⟩ => by simp [h]
  keep := fun ⟨A1, c1, L1, h, hL, t0, n1, m1, s1⟩ hk => ⟨A1, c1, L1, h, hL, t0, n1, m1, s1.keep (fun b m => hk b (by simp [hL, m]))⟩
  lt := fun ⟨A1, c1, L1, h, hL, t0, n1, m1, s1⟩ => by intro b m; simp only [hL, List.mem_append] at m; exact s1.lt b m
  one := fun ⟨A1, c1, L1, h, hL, t0, n1, m1, s1⟩ => by simp [h, Value.oneCell']
  pos := by omega
theorem cFact_cells {w : World} {cs : List Value} {x : FactD} {L : List Nat} (h : cFact.rep w cs x L) : ∃ A1 c1, cs = [.string x.rel, .slice A1 x.args.length c1] := by
  obtain ⟨A1, c1, L1, h, hL, t0, n1, m1, s1⟩ := h
  exact ⟨A1, c1, h⟩
def costFact (x : FactD) : Nat := x.rel.size + costStrs x.args
def costFactS (l : List FactD) : Nat := l.length + (l.map costFact).sum

structure PatternD where
  rel : ByteArray
  args : List ByteArray
def cPattern : Codec PatternD where
  size := 2
  rep := fun w cs x L => ∃ A1 c1 L1, cs = [.string x.rel, .slice A1 x.args.length c1] ∧ L = L1 ∧ x.rel.size ≤ 9223372036854775807 ∧ x.args.length ≤ c1 ∧ c1 ≤ maxLen ∧ Sli strC w A1 x.args L1
  len := fun ⟨A1, c1, L1, h, hL, t0, n1, m1, s1⟩ => by simp [h]
  keep := fun ⟨A1, c1, L1, h, hL, t0, n1, m1, s1⟩ hk => ⟨A1, c1, L1, h, hL, t0, n1, m1, s1.keep (fun b m => hk b (by simp [hL, m]))⟩
  lt := fun ⟨A1, c1, L1, h, hL, t0, n1, m1, s1⟩ => by intro b m; simp only [hL, List.mem_append] at m; exact s1.lt b m
  one := fun ⟨A1, c1, L1, h, hL, t0, n1, m1, s1⟩ => by simp [h, Value.oneCell']
  pos := by omega
theorem cPattern_cells {w : World} {cs : List Value} {x : PatternD} {L : List Nat} (h : cPattern.rep w cs x L) : ∃ A1 c1, cs = [.string x.rel, .slice A1 x.args.length c1] := by
  obtain ⟨A1, c1, L1, h, hL, t0, n1, m1, s1⟩ := h
  exact ⟨A1, c1, h⟩
def costPattern (x : PatternD) : Nat := x.rel.size + costStrs x.args
def costPatternS (l : List PatternD) : Nat := l.length + (l.map costPattern).sum

structure PairD where
  var : ByteArray
  value : ByteArray
def cPair : Codec PairD where
  size := 2
  rep := fun w cs x L => cs = [.string x.var, .string x.value] ∧ L = [] ∧ x.var.size ≤ 9223372036854775807 ∧ x.value.size ≤ 9223372036854775807
  len := fun h => by simp [h.1]
  keep := fun h _ => h
  lt := fun h => by simp [h.2.1]
  one := fun h => by simp [h.1, Value.oneCell']
  pos := by omega
theorem cPair_cells {w : World} {cs : List Value} {x : PairD} {L : List Nat} (h : cPair.rep w cs x L) : cs = [.string x.var, .string x.value] := by
  exact h.1
def costPair (x : PairD) : Nat := x.var.size + x.value.size
def costPairS (l : List PairD) : Nat := l.length + (l.map costPair).sum

structure CondD where
  kind : Int
  pattern : PatternD
  left : ByteArray
  right : ByteArray
def cCond : Codec CondD where
  size := 5
  rep := fun w cs x L => ∃ A1 c1 L1, cs = [.int .i64 x.kind, .string x.pattern.rel, .slice A1 x.pattern.args.length c1, .string x.left, .string x.right] ∧ L = L1 ∧ x.pattern.rel.size ≤ 9223372036854775807 ∧ x.left.size ≤ 9223372036854775807 ∧ x.right.size ≤ 9223372036854775807 ∧ x.pattern.args.length ≤ c1 ∧ c1 ≤ maxLen ∧ Sli strC w A1 x.pattern.args L1
  len := fun ⟨A1, c1, L1, h, hL, t0, t1, t2, n1, m1, s1⟩ => by simp [h]
  keep := fun ⟨A1, c1, L1, h, hL, t0, t1, t2, n1, m1, s1⟩ hk => ⟨A1, c1, L1, h, hL, t0, t1, t2, n1, m1, s1.keep (fun b m => hk b (by simp [hL, m]))⟩
  lt := fun ⟨A1, c1, L1, h, hL, t0, t1, t2, n1, m1, s1⟩ => by intro b m; simp only [hL, List.mem_append] at m; exact s1.lt b m
  one := fun ⟨A1, c1, L1, h, hL, t0, t1, t2, n1, m1, s1⟩ => by simp [h, Value.oneCell']
  pos := by omega
theorem cCond_cells {w : World} {cs : List Value} {x : CondD} {L : List Nat} (h : cCond.rep w cs x L) : ∃ A1 c1, cs = [.int .i64 x.kind, .string x.pattern.rel, .slice A1 x.pattern.args.length c1, .string x.left, .string x.right] := by
  obtain ⟨A1, c1, L1, h, hL, t0, t1, t2, n1, m1, s1⟩ := h
  exact ⟨A1, c1, h⟩
def costCond (x : CondD) : Nat := costPattern x.pattern + x.left.size + x.right.size
def costCondS (l : List CondD) : Nat := l.length + (l.map costCond).sum

structure ActionD where
  kind : Int
  pattern : PatternD
def cAction : Codec ActionD where
  size := 3
  rep := fun w cs x L => ∃ A1 c1 L1, cs = [.int .i64 x.kind, .string x.pattern.rel, .slice A1 x.pattern.args.length c1] ∧ L = L1 ∧ x.pattern.rel.size ≤ 9223372036854775807 ∧ x.pattern.args.length ≤ c1 ∧ c1 ≤ maxLen ∧ Sli strC w A1 x.pattern.args L1
  len := fun ⟨A1, c1, L1, h, hL, t0, n1, m1, s1⟩ => by simp [h]
  keep := fun ⟨A1, c1, L1, h, hL, t0, n1, m1, s1⟩ hk => ⟨A1, c1, L1, h, hL, t0, n1, m1, s1.keep (fun b m => hk b (by simp [hL, m]))⟩
  lt := fun ⟨A1, c1, L1, h, hL, t0, n1, m1, s1⟩ => by intro b m; simp only [hL, List.mem_append] at m; exact s1.lt b m
  one := fun ⟨A1, c1, L1, h, hL, t0, n1, m1, s1⟩ => by simp [h, Value.oneCell']
  pos := by omega
theorem cAction_cells {w : World} {cs : List Value} {x : ActionD} {L : List Nat} (h : cAction.rep w cs x L) : ∃ A1 c1, cs = [.int .i64 x.kind, .string x.pattern.rel, .slice A1 x.pattern.args.length c1] := by
  obtain ⟨A1, c1, L1, h, hL, t0, n1, m1, s1⟩ := h
  exact ⟨A1, c1, h⟩
def costAction (x : ActionD) : Nat := costPattern x.pattern
def costActionS (l : List ActionD) : Nat := l.length + (l.map costAction).sum

structure RuleD where
  name : ByteArray
  priority : Int
  cond : List CondD
  thn : List ActionD
def cRule : Codec RuleD where
  size := 4
  rep := fun w cs x L => ∃ A1 c1 L1 A2 c2 L2, cs = [.string x.name, .int .i64 x.priority, .slice A1 x.cond.length c1, .slice A2 x.thn.length c2] ∧ L = L1 ++ L2 ∧ x.name.size ≤ 9223372036854775807 ∧ x.cond.length ≤ c1 ∧ c1 ≤ maxLen ∧ Sli cCond w A1 x.cond L1 ∧ x.thn.length ≤ c2 ∧ c2 ≤ maxLen ∧ Sli cAction w A2 x.thn L2
  len := fun ⟨A1, c1, L1, A2, c2, L2, h, hL, t0, n1, m1, s1, n2, m2, s2⟩ => by simp [h]
  keep := fun ⟨A1, c1, L1, A2, c2, L2, h, hL, t0, n1, m1, s1, n2, m2, s2⟩ hk => ⟨A1, c1, L1, A2, c2, L2, h, hL, t0, n1, m1, s1.keep (fun b m => hk b (by simp [hL, m])), n2, m2, s2.keep (fun b m => hk b (by simp [hL, m]))⟩
  lt := fun ⟨A1, c1, L1, A2, c2, L2, h, hL, t0, n1, m1, s1, n2, m2, s2⟩ => by intro b m; simp only [hL, List.mem_append] at m; rcases m with m | m <;> first | exact s1.lt b m | exact s2.lt b m
  one := fun ⟨A1, c1, L1, A2, c2, L2, h, hL, t0, n1, m1, s1, n2, m2, s2⟩ => by simp [h, Value.oneCell']
  pos := by omega
theorem cRule_cells {w : World} {cs : List Value} {x : RuleD} {L : List Nat} (h : cRule.rep w cs x L) : ∃ A1 c1 A2 c2, cs = [.string x.name, .int .i64 x.priority, .slice A1 x.cond.length c1, .slice A2 x.thn.length c2] := by
  obtain ⟨A1, c1, L1, A2, c2, L2, h, hL, t0, n1, m1, s1, n2, m2, s2⟩ := h
  exact ⟨A1, c1, A2, c2, h⟩
def costRule (x : RuleD) : Nat := x.name.size + costCondS x.cond + costActionS x.thn
def costRuleS (l : List RuleD) : Nat := l.length + (l.map costRule).sum

structure TokenD where
  facts : List FactD
  binding : List PairD
def cToken : Codec TokenD where
  size := 2
  rep := fun w cs x L => ∃ A1 c1 L1 A2 c2 L2, cs = [.slice A1 x.facts.length c1, .slice A2 x.binding.length c2] ∧ L = L1 ++ L2 ∧ x.facts.length ≤ c1 ∧ c1 ≤ maxLen ∧ Sli cFact w A1 x.facts L1 ∧ x.binding.length ≤ c2 ∧ c2 ≤ maxLen ∧ Sli cPair w A2 x.binding L2
  len := fun ⟨A1, c1, L1, A2, c2, L2, h, hL, n1, m1, s1, n2, m2, s2⟩ => by simp [h]
  keep := fun ⟨A1, c1, L1, A2, c2, L2, h, hL, n1, m1, s1, n2, m2, s2⟩ hk => ⟨A1, c1, L1, A2, c2, L2, h, hL, n1, m1, s1.keep (fun b m => hk b (by simp [hL, m])), n2, m2, s2.keep (fun b m => hk b (by simp [hL, m]))⟩
  lt := fun ⟨A1, c1, L1, A2, c2, L2, h, hL, n1, m1, s1, n2, m2, s2⟩ => by intro b m; simp only [hL, List.mem_append] at m; rcases m with m | m <;> first | exact s1.lt b m | exact s2.lt b m
  one := fun ⟨A1, c1, L1, A2, c2, L2, h, hL, n1, m1, s1, n2, m2, s2⟩ => by simp [h, Value.oneCell']
  pos := by omega
theorem cToken_cells {w : World} {cs : List Value} {x : TokenD} {L : List Nat} (h : cToken.rep w cs x L) : ∃ A1 c1 A2 c2, cs = [.slice A1 x.facts.length c1, .slice A2 x.binding.length c2] := by
  obtain ⟨A1, c1, L1, A2, c2, L2, h, hL, n1, m1, s1, n2, m2, s2⟩ := h
  exact ⟨A1, c1, A2, c2, h⟩
def costToken (x : TokenD) : Nat := costFactS x.facts + costPairS x.binding
def costTokenS (l : List TokenD) : Nat := l.length + (l.map costToken).sum

structure MatchD where
  rule : ByteArray
  facts : List FactD
  binding : List PairD
def cMatch : Codec MatchD where
  size := 3
  rep := fun w cs x L => ∃ A1 c1 L1 A2 c2 L2, cs = [.string x.rule, .slice A1 x.facts.length c1, .slice A2 x.binding.length c2] ∧ L = L1 ++ L2 ∧ x.rule.size ≤ 9223372036854775807 ∧ x.facts.length ≤ c1 ∧ c1 ≤ maxLen ∧ Sli cFact w A1 x.facts L1 ∧ x.binding.length ≤ c2 ∧ c2 ≤ maxLen ∧ Sli cPair w A2 x.binding L2
  len := fun ⟨A1, c1, L1, A2, c2, L2, h, hL, t0, n1, m1, s1, n2, m2, s2⟩ => by simp [h]
  keep := fun ⟨A1, c1, L1, A2, c2, L2, h, hL, t0, n1, m1, s1, n2, m2, s2⟩ hk => ⟨A1, c1, L1, A2, c2, L2, h, hL, t0, n1, m1, s1.keep (fun b m => hk b (by simp [hL, m])), n2, m2, s2.keep (fun b m => hk b (by simp [hL, m]))⟩
  lt := fun ⟨A1, c1, L1, A2, c2, L2, h, hL, t0, n1, m1, s1, n2, m2, s2⟩ => by intro b m; simp only [hL, List.mem_append] at m; rcases m with m | m <;> first | exact s1.lt b m | exact s2.lt b m
  one := fun ⟨A1, c1, L1, A2, c2, L2, h, hL, t0, n1, m1, s1, n2, m2, s2⟩ => by simp [h, Value.oneCell']
  pos := by omega
theorem cMatch_cells {w : World} {cs : List Value} {x : MatchD} {L : List Nat} (h : cMatch.rep w cs x L) : ∃ A1 c1 A2 c2, cs = [.string x.rule, .slice A1 x.facts.length c1, .slice A2 x.binding.length c2] := by
  obtain ⟨A1, c1, L1, A2, c2, L2, h, hL, t0, n1, m1, s1, n2, m2, s2⟩ := h
  exact ⟨A1, c1, A2, c2, h⟩
def costMatch (x : MatchD) : Nat := x.rule.size + costFactS x.facts + costPairS x.binding
def costMatchS (l : List MatchD) : Nat := l.length + (l.map costMatch).sum

structure AlphaD where
  shape : PatternD
  facts : List FactD
def cAlpha : Codec AlphaD where
  size := 3
  rep := fun w cs x L => ∃ A1 c1 L1 A2 c2 L2, cs = [.string x.shape.rel, .slice A1 x.shape.args.length c1, .slice A2 x.facts.length c2] ∧ L = L1 ++ L2 ∧ x.shape.rel.size ≤ 9223372036854775807 ∧ x.shape.args.length ≤ c1 ∧ c1 ≤ maxLen ∧ Sli strC w A1 x.shape.args L1 ∧ x.facts.length ≤ c2 ∧ c2 ≤ maxLen ∧ Sli cFact w A2 x.facts L2
  len := fun ⟨A1, c1, L1, A2, c2, L2, h, hL, t0, n1, m1, s1, n2, m2, s2⟩ => by simp [h]
  keep := fun ⟨A1, c1, L1, A2, c2, L2, h, hL, t0, n1, m1, s1, n2, m2, s2⟩ hk => ⟨A1, c1, L1, A2, c2, L2, h, hL, t0, n1, m1, s1.keep (fun b m => hk b (by simp [hL, m])), n2, m2, s2.keep (fun b m => hk b (by simp [hL, m]))⟩
  lt := fun ⟨A1, c1, L1, A2, c2, L2, h, hL, t0, n1, m1, s1, n2, m2, s2⟩ => by intro b m; simp only [hL, List.mem_append] at m; rcases m with m | m <;> first | exact s1.lt b m | exact s2.lt b m
  one := fun ⟨A1, c1, L1, A2, c2, L2, h, hL, t0, n1, m1, s1, n2, m2, s2⟩ => by simp [h, Value.oneCell']
  pos := by omega
theorem cAlpha_cells {w : World} {cs : List Value} {x : AlphaD} {L : List Nat} (h : cAlpha.rep w cs x L) : ∃ A1 c1 A2 c2, cs = [.string x.shape.rel, .slice A1 x.shape.args.length c1, .slice A2 x.facts.length c2] := by
  obtain ⟨A1, c1, L1, A2, c2, L2, h, hL, t0, n1, m1, s1, n2, m2, s2⟩ := h
  exact ⟨A1, c1, A2, c2, h⟩
def costAlpha (x : AlphaD) : Nat := costPattern x.shape + costFactS x.facts
def costAlphaS (l : List AlphaD) : Nat := l.length + (l.map costAlpha).sum

structure NodeD where
  parent : Int
  cond : CondD
  alpha : Int
  tokens : List TokenD
def cNode : Codec NodeD where
  size := 8
  rep := fun w cs x L => ∃ A1 c1 L1 A2 c2 L2, cs = [.int .i64 x.parent, .int .i64 x.cond.kind, .string x.cond.pattern.rel, .slice A1 x.cond.pattern.args.length c1, .string x.cond.left, .string x.cond.right, .int .i64 x.alpha, .slice A2 x.tokens.length c2] ∧ L = L1 ++ L2 ∧ x.cond.pattern.rel.size ≤ 9223372036854775807 ∧ x.cond.left.size ≤ 9223372036854775807 ∧ x.cond.right.size ≤ 9223372036854775807 ∧ x.cond.pattern.args.length ≤ c1 ∧ c1 ≤ maxLen ∧ Sli strC w A1 x.cond.pattern.args L1 ∧ x.tokens.length ≤ c2 ∧ c2 ≤ maxLen ∧ Sli cToken w A2 x.tokens L2
  len := fun ⟨A1, c1, L1, A2, c2, L2, h, hL, t0, t1, t2, n1, m1, s1, n2, m2, s2⟩ => by simp [h]
  keep := fun ⟨A1, c1, L1, A2, c2, L2, h, hL, t0, t1, t2, n1, m1, s1, n2, m2, s2⟩ hk => ⟨A1, c1, L1, A2, c2, L2, h, hL, t0, t1, t2, n1, m1, s1.keep (fun b m => hk b (by simp [hL, m])), n2, m2, s2.keep (fun b m => hk b (by simp [hL, m]))⟩
  lt := fun ⟨A1, c1, L1, A2, c2, L2, h, hL, t0, t1, t2, n1, m1, s1, n2, m2, s2⟩ => by intro b m; simp only [hL, List.mem_append] at m; rcases m with m | m <;> first | exact s1.lt b m | exact s2.lt b m
  one := fun ⟨A1, c1, L1, A2, c2, L2, h, hL, t0, t1, t2, n1, m1, s1, n2, m2, s2⟩ => by simp [h, Value.oneCell']
  pos := by omega
theorem cNode_cells {w : World} {cs : List Value} {x : NodeD} {L : List Nat} (h : cNode.rep w cs x L) : ∃ A1 c1 A2 c2, cs = [.int .i64 x.parent, .int .i64 x.cond.kind, .string x.cond.pattern.rel, .slice A1 x.cond.pattern.args.length c1, .string x.cond.left, .string x.cond.right, .int .i64 x.alpha, .slice A2 x.tokens.length c2] := by
  obtain ⟨A1, c1, L1, A2, c2, L2, h, hL, t0, t1, t2, n1, m1, s1, n2, m2, s2⟩ := h
  exact ⟨A1, c1, A2, c2, h⟩
def costNode (x : NodeD) : Nat := costCond x.cond + costTokenS x.tokens
def costNodeS (l : List NodeD) : Nat := l.length + (l.map costNode).sum

structure NetworkD where
  rules : List RuleD
  ends : List Int
  alphas : List AlphaD
  nodes : List NodeD
  facts : List FactD
  tries : Int
def cNetwork : Codec NetworkD where
  size := 6
  rep := fun w cs x L => ∃ A1 c1 L1 A2 c2 L2 A3 c3 L3 A4 c4 L4 A5 c5 L5, cs = [.slice A1 x.rules.length c1, .slice A2 x.ends.length c2, .slice A3 x.alphas.length c3, .slice A4 x.nodes.length c4, .slice A5 x.facts.length c5, .int .i64 x.tries] ∧ L = L1 ++ (L2 ++ (L3 ++ (L4 ++ L5))) ∧ x.rules.length ≤ c1 ∧ c1 ≤ maxLen ∧ Sli cRule w A1 x.rules L1 ∧ x.ends.length ≤ c2 ∧ c2 ≤ maxLen ∧ Sli intC w A2 x.ends L2 ∧ x.alphas.length ≤ c3 ∧ c3 ≤ maxLen ∧ Sli cAlpha w A3 x.alphas L3 ∧ x.nodes.length ≤ c4 ∧ c4 ≤ maxLen ∧ Sli cNode w A4 x.nodes L4 ∧ x.facts.length ≤ c5 ∧ c5 ≤ maxLen ∧ Sli cFact w A5 x.facts L5
  len := fun ⟨A1, c1, L1, A2, c2, L2, A3, c3, L3, A4, c4, L4, A5, c5, L5, h, hL, n1, m1, s1, n2, m2, s2, n3, m3, s3, n4, m4, s4, n5, m5, s5⟩ => by simp [h]
  keep := fun ⟨A1, c1, L1, A2, c2, L2, A3, c3, L3, A4, c4, L4, A5, c5, L5, h, hL, n1, m1, s1, n2, m2, s2, n3, m3, s3, n4, m4, s4, n5, m5, s5⟩ hk => ⟨A1, c1, L1, A2, c2, L2, A3, c3, L3, A4, c4, L4, A5, c5, L5, h, hL, n1, m1, s1.keep (fun b m => hk b (by simp [hL, m])), n2, m2, s2.keep (fun b m => hk b (by simp [hL, m])), n3, m3, s3.keep (fun b m => hk b (by simp [hL, m])), n4, m4, s4.keep (fun b m => hk b (by simp [hL, m])), n5, m5, s5.keep (fun b m => hk b (by simp [hL, m]))⟩
  lt := fun ⟨A1, c1, L1, A2, c2, L2, A3, c3, L3, A4, c4, L4, A5, c5, L5, h, hL, n1, m1, s1, n2, m2, s2, n3, m3, s3, n4, m4, s4, n5, m5, s5⟩ => by intro b m; simp only [hL, List.mem_append] at m; rcases m with m | m | m | m | m <;> first | exact s1.lt b m | exact s2.lt b m | exact s3.lt b m | exact s4.lt b m | exact s5.lt b m
  one := fun ⟨A1, c1, L1, A2, c2, L2, A3, c3, L3, A4, c4, L4, A5, c5, L5, h, hL, n1, m1, s1, n2, m2, s2, n3, m3, s3, n4, m4, s4, n5, m5, s5⟩ => by simp [h, Value.oneCell']
  pos := by omega
theorem cNetwork_cells {w : World} {cs : List Value} {x : NetworkD} {L : List Nat} (h : cNetwork.rep w cs x L) : ∃ A1 c1 A2 c2 A3 c3 A4 c4 A5 c5, cs = [.slice A1 x.rules.length c1, .slice A2 x.ends.length c2, .slice A3 x.alphas.length c3, .slice A4 x.nodes.length c4, .slice A5 x.facts.length c5, .int .i64 x.tries] := by
  obtain ⟨A1, c1, L1, A2, c2, L2, A3, c3, L3, A4, c4, L4, A5, c5, L5, h, hL, n1, m1, s1, n2, m2, s2, n3, m3, s3, n4, m4, s4, n5, m5, s5⟩ := h
  exact ⟨A1, c1, A2, c2, A3, c3, A4, c4, A5, c5, h⟩
def costNetwork (x : NetworkD) : Nat := costRuleS x.rules + x.ends.length + costAlphaS x.alphas + costNodeS x.nodes + costFactS x.facts
def costNetworkS (l : List NetworkD) : Nat := l.length + (l.map costNetwork).sum

structure StampD where
  fact : FactD
  time : Int
def cStamp : Codec StampD where
  size := 3
  rep := fun w cs x L => ∃ A1 c1 L1, cs = [.string x.fact.rel, .slice A1 x.fact.args.length c1, .int .i64 x.time] ∧ L = L1 ∧ x.fact.rel.size ≤ 9223372036854775807 ∧ x.fact.args.length ≤ c1 ∧ c1 ≤ maxLen ∧ Sli strC w A1 x.fact.args L1
  len := fun ⟨A1, c1, L1, h, hL, t0, n1, m1, s1⟩ => by simp [h]
  keep := fun ⟨A1, c1, L1, h, hL, t0, n1, m1, s1⟩ hk => ⟨A1, c1, L1, h, hL, t0, n1, m1, s1.keep (fun b m => hk b (by simp [hL, m]))⟩
  lt := fun ⟨A1, c1, L1, h, hL, t0, n1, m1, s1⟩ => by intro b m; simp only [hL, List.mem_append] at m; exact s1.lt b m
  one := fun ⟨A1, c1, L1, h, hL, t0, n1, m1, s1⟩ => by simp [h, Value.oneCell']
  pos := by omega
theorem cStamp_cells {w : World} {cs : List Value} {x : StampD} {L : List Nat} (h : cStamp.rep w cs x L) : ∃ A1 c1, cs = [.string x.fact.rel, .slice A1 x.fact.args.length c1, .int .i64 x.time] := by
  obtain ⟨A1, c1, L1, h, hL, t0, n1, m1, s1⟩ := h
  exact ⟨A1, c1, h⟩
def costStamp (x : StampD) : Nat := costFact x.fact
def costStampS (l : List StampD) : Nat := l.length + (l.map costStamp).sum

structure ChoiceD where
  mtch : MatchD
  priority : Int
  times : List Int
  specific : Int
  ordr : Int
def cChoice : Codec ChoiceD where
  size := 7
  rep := fun w cs x L => ∃ A1 c1 L1 A2 c2 L2 A3 c3 L3, cs = [.string x.mtch.rule, .slice A1 x.mtch.facts.length c1, .slice A2 x.mtch.binding.length c2, .int .i64 x.priority, .slice A3 x.times.length c3, .int .i64 x.specific, .int .i64 x.ordr] ∧ L = L1 ++ (L2 ++ L3) ∧ x.mtch.rule.size ≤ 9223372036854775807 ∧ x.mtch.facts.length ≤ c1 ∧ c1 ≤ maxLen ∧ Sli cFact w A1 x.mtch.facts L1 ∧ x.mtch.binding.length ≤ c2 ∧ c2 ≤ maxLen ∧ Sli cPair w A2 x.mtch.binding L2 ∧ x.times.length ≤ c3 ∧ c3 ≤ maxLen ∧ Sli intC w A3 x.times L3
  len := fun ⟨A1, c1, L1, A2, c2, L2, A3, c3, L3, h, hL, t0, n1, m1, s1, n2, m2, s2, n3, m3, s3⟩ => by simp [h]
  keep := fun ⟨A1, c1, L1, A2, c2, L2, A3, c3, L3, h, hL, t0, n1, m1, s1, n2, m2, s2, n3, m3, s3⟩ hk => ⟨A1, c1, L1, A2, c2, L2, A3, c3, L3, h, hL, t0, n1, m1, s1.keep (fun b m => hk b (by simp [hL, m])), n2, m2, s2.keep (fun b m => hk b (by simp [hL, m])), n3, m3, s3.keep (fun b m => hk b (by simp [hL, m]))⟩
  lt := fun ⟨A1, c1, L1, A2, c2, L2, A3, c3, L3, h, hL, t0, n1, m1, s1, n2, m2, s2, n3, m3, s3⟩ => by intro b m; simp only [hL, List.mem_append] at m; rcases m with m | m | m <;> first | exact s1.lt b m | exact s2.lt b m | exact s3.lt b m
  one := fun ⟨A1, c1, L1, A2, c2, L2, A3, c3, L3, h, hL, t0, n1, m1, s1, n2, m2, s2, n3, m3, s3⟩ => by simp [h, Value.oneCell']
  pos := by omega
theorem cChoice_cells {w : World} {cs : List Value} {x : ChoiceD} {L : List Nat} (h : cChoice.rep w cs x L) : ∃ A1 c1 A2 c2 A3 c3, cs = [.string x.mtch.rule, .slice A1 x.mtch.facts.length c1, .slice A2 x.mtch.binding.length c2, .int .i64 x.priority, .slice A3 x.times.length c3, .int .i64 x.specific, .int .i64 x.ordr] := by
  obtain ⟨A1, c1, L1, A2, c2, L2, A3, c3, L3, h, hL, t0, n1, m1, s1, n2, m2, s2, n3, m3, s3⟩ := h
  exact ⟨A1, c1, A2, c2, A3, c3, h⟩
def costChoice (x : ChoiceD) : Nat := costMatch x.mtch + x.times.length
def costChoiceS (l : List ChoiceD) : Nat := l.length + (l.map costChoice).sum

structure FiringD where
  rule : ByteArray
  times : List Int
def cFiring : Codec FiringD where
  size := 2
  rep := fun w cs x L => ∃ A1 c1 L1, cs = [.string x.rule, .slice A1 x.times.length c1] ∧ L = L1 ∧ x.rule.size ≤ 9223372036854775807 ∧ x.times.length ≤ c1 ∧ c1 ≤ maxLen ∧ Sli intC w A1 x.times L1
  len := fun ⟨A1, c1, L1, h, hL, t0, n1, m1, s1⟩ => by simp [h]
  keep := fun ⟨A1, c1, L1, h, hL, t0, n1, m1, s1⟩ hk => ⟨A1, c1, L1, h, hL, t0, n1, m1, s1.keep (fun b m => hk b (by simp [hL, m]))⟩
  lt := fun ⟨A1, c1, L1, h, hL, t0, n1, m1, s1⟩ => by intro b m; simp only [hL, List.mem_append] at m; exact s1.lt b m
  one := fun ⟨A1, c1, L1, h, hL, t0, n1, m1, s1⟩ => by simp [h, Value.oneCell']
  pos := by omega
theorem cFiring_cells {w : World} {cs : List Value} {x : FiringD} {L : List Nat} (h : cFiring.rep w cs x L) : ∃ A1 c1, cs = [.string x.rule, .slice A1 x.times.length c1] := by
  obtain ⟨A1, c1, L1, h, hL, t0, n1, m1, s1⟩ := h
  exact ⟨A1, c1, h⟩
def costFiring (x : FiringD) : Nat := x.rule.size + x.times.length
def costFiringS (l : List FiringD) : Nat := l.length + (l.map costFiring).sum

structure EventD where
  kind : Int
  rule : ByteArray
  fact : FactD
def cEvent : Codec EventD where
  size := 4
  rep := fun w cs x L => ∃ A1 c1 L1, cs = [.int .i64 x.kind, .string x.rule, .string x.fact.rel, .slice A1 x.fact.args.length c1] ∧ L = L1 ∧ x.rule.size ≤ 9223372036854775807 ∧ x.fact.rel.size ≤ 9223372036854775807 ∧ x.fact.args.length ≤ c1 ∧ c1 ≤ maxLen ∧ Sli strC w A1 x.fact.args L1
  len := fun ⟨A1, c1, L1, h, hL, t0, t1, n1, m1, s1⟩ => by simp [h]
  keep := fun ⟨A1, c1, L1, h, hL, t0, t1, n1, m1, s1⟩ hk => ⟨A1, c1, L1, h, hL, t0, t1, n1, m1, s1.keep (fun b m => hk b (by simp [hL, m]))⟩
  lt := fun ⟨A1, c1, L1, h, hL, t0, t1, n1, m1, s1⟩ => by intro b m; simp only [hL, List.mem_append] at m; exact s1.lt b m
  one := fun ⟨A1, c1, L1, h, hL, t0, t1, n1, m1, s1⟩ => by simp [h, Value.oneCell']
  pos := by omega
theorem cEvent_cells {w : World} {cs : List Value} {x : EventD} {L : List Nat} (h : cEvent.rep w cs x L) : ∃ A1 c1, cs = [.int .i64 x.kind, .string x.rule, .string x.fact.rel, .slice A1 x.fact.args.length c1] := by
  obtain ⟨A1, c1, L1, h, hL, t0, t1, n1, m1, s1⟩ := h
  exact ⟨A1, c1, h⟩
def costEvent (x : EventD) : Nat := x.rule.size + costFact x.fact
def costEventS (l : List EventD) : Nat := l.length + (l.map costEvent).sum

structure EngineD where
  rules : List RuleD
  memory : List StampD
  clock : Int
  fired : List FiringD
  halted : Bool
  log : List EventD
def cEngine : Codec EngineD where
  size := 6
  rep := fun w cs x L => ∃ A1 c1 L1 A2 c2 L2 A3 c3 L3 A4 c4 L4, cs = [.slice A1 x.rules.length c1, .slice A2 x.memory.length c2, .int .i64 x.clock, .slice A3 x.fired.length c3, .bool x.halted, .slice A4 x.log.length c4] ∧ L = L1 ++ (L2 ++ (L3 ++ L4)) ∧ x.rules.length ≤ c1 ∧ c1 ≤ maxLen ∧ Sli cRule w A1 x.rules L1 ∧ x.memory.length ≤ c2 ∧ c2 ≤ maxLen ∧ Sli cStamp w A2 x.memory L2 ∧ x.fired.length ≤ c3 ∧ c3 ≤ maxLen ∧ Sli cFiring w A3 x.fired L3 ∧ x.log.length ≤ c4 ∧ c4 ≤ maxLen ∧ Sli cEvent w A4 x.log L4
  len := fun ⟨A1, c1, L1, A2, c2, L2, A3, c3, L3, A4, c4, L4, h, hL, n1, m1, s1, n2, m2, s2, n3, m3, s3, n4, m4, s4⟩ => by simp [h]
  keep := fun ⟨A1, c1, L1, A2, c2, L2, A3, c3, L3, A4, c4, L4, h, hL, n1, m1, s1, n2, m2, s2, n3, m3, s3, n4, m4, s4⟩ hk => ⟨A1, c1, L1, A2, c2, L2, A3, c3, L3, A4, c4, L4, h, hL, n1, m1, s1.keep (fun b m => hk b (by simp [hL, m])), n2, m2, s2.keep (fun b m => hk b (by simp [hL, m])), n3, m3, s3.keep (fun b m => hk b (by simp [hL, m])), n4, m4, s4.keep (fun b m => hk b (by simp [hL, m]))⟩
  lt := fun ⟨A1, c1, L1, A2, c2, L2, A3, c3, L3, A4, c4, L4, h, hL, n1, m1, s1, n2, m2, s2, n3, m3, s3, n4, m4, s4⟩ => by intro b m; simp only [hL, List.mem_append] at m; rcases m with m | m | m | m <;> first | exact s1.lt b m | exact s2.lt b m | exact s3.lt b m | exact s4.lt b m
  one := fun ⟨A1, c1, L1, A2, c2, L2, A3, c3, L3, A4, c4, L4, h, hL, n1, m1, s1, n2, m2, s2, n3, m3, s3, n4, m4, s4⟩ => by simp [h, Value.oneCell']
  pos := by omega
theorem cEngine_cells {w : World} {cs : List Value} {x : EngineD} {L : List Nat} (h : cEngine.rep w cs x L) : ∃ A1 c1 A2 c2 A3 c3 A4 c4, cs = [.slice A1 x.rules.length c1, .slice A2 x.memory.length c2, .int .i64 x.clock, .slice A3 x.fired.length c3, .bool x.halted, .slice A4 x.log.length c4] := by
  obtain ⟨A1, c1, L1, A2, c2, L2, A3, c3, L3, A4, c4, L4, h, hL, n1, m1, s1, n2, m2, s2, n3, m3, s3, n4, m4, s4⟩ := h
  exact ⟨A1, c1, A2, c2, A3, c3, A4, c4, h⟩
def costEngine (x : EngineD) : Nat := costRuleS x.rules + costStampS x.memory + costFiringS x.fired + costEventS x.log
def costEngineS (l : List EngineD) : Nat := l.length + (l.map costEngine).sum

structure ReasonD where
  for_ : Int
  inn : List Int
  outs : List Int
def cReason : Codec ReasonD where
  size := 3
  rep := fun w cs x L => ∃ A1 c1 L1 A2 c2 L2, cs = [.int .i64 x.for_, .slice A1 x.inn.length c1, .slice A2 x.outs.length c2] ∧ L = L1 ++ L2 ∧ x.inn.length ≤ c1 ∧ c1 ≤ maxLen ∧ Sli intC w A1 x.inn L1 ∧ x.outs.length ≤ c2 ∧ c2 ≤ maxLen ∧ Sli intC w A2 x.outs L2
  len := fun ⟨A1, c1, L1, A2, c2, L2, h, hL, n1, m1, s1, n2, m2, s2⟩ => by simp [h]
  keep := fun ⟨A1, c1, L1, A2, c2, L2, h, hL, n1, m1, s1, n2, m2, s2⟩ hk => ⟨A1, c1, L1, A2, c2, L2, h, hL, n1, m1, s1.keep (fun b m => hk b (by simp [hL, m])), n2, m2, s2.keep (fun b m => hk b (by simp [hL, m]))⟩
  lt := fun ⟨A1, c1, L1, A2, c2, L2, h, hL, n1, m1, s1, n2, m2, s2⟩ => by intro b m; simp only [hL, List.mem_append] at m; rcases m with m | m <;> first | exact s1.lt b m | exact s2.lt b m
  one := fun ⟨A1, c1, L1, A2, c2, L2, h, hL, n1, m1, s1, n2, m2, s2⟩ => by simp [h, Value.oneCell']
  pos := by omega
theorem cReason_cells {w : World} {cs : List Value} {x : ReasonD} {L : List Nat} (h : cReason.rep w cs x L) : ∃ A1 c1 A2 c2, cs = [.int .i64 x.for_, .slice A1 x.inn.length c1, .slice A2 x.outs.length c2] := by
  obtain ⟨A1, c1, L1, A2, c2, L2, h, hL, n1, m1, s1, n2, m2, s2⟩ := h
  exact ⟨A1, c1, A2, c2, h⟩
def costReason (x : ReasonD) : Nat := x.inn.length + x.outs.length
def costReasonS (l : List ReasonD) : Nat := l.length + (l.map costReason).sum

structure BeliefsD where
  nodes : Int
  reasons : List ReasonD
def cBeliefs : Codec BeliefsD where
  size := 2
  rep := fun w cs x L => ∃ A1 c1 L1, cs = [.int .i64 x.nodes, .slice A1 x.reasons.length c1] ∧ L = L1 ∧ x.reasons.length ≤ c1 ∧ c1 ≤ maxLen ∧ Sli cReason w A1 x.reasons L1
  len := fun ⟨A1, c1, L1, h, hL, n1, m1, s1⟩ => by simp [h]
  keep := fun ⟨A1, c1, L1, h, hL, n1, m1, s1⟩ hk => ⟨A1, c1, L1, h, hL, n1, m1, s1.keep (fun b m => hk b (by simp [hL, m]))⟩
  lt := fun ⟨A1, c1, L1, h, hL, n1, m1, s1⟩ => by intro b m; simp only [hL, List.mem_append] at m; exact s1.lt b m
  one := fun ⟨A1, c1, L1, h, hL, n1, m1, s1⟩ => by simp [h, Value.oneCell']
  pos := by omega
theorem cBeliefs_cells {w : World} {cs : List Value} {x : BeliefsD} {L : List Nat} (h : cBeliefs.rep w cs x L) : ∃ A1 c1, cs = [.int .i64 x.nodes, .slice A1 x.reasons.length c1] := by
  obtain ⟨A1, c1, L1, h, hL, n1, m1, s1⟩ := h
  exact ⟨A1, c1, h⟩
def costBeliefs (x : BeliefsD) : Nat := costReasonS x.reasons
def costBeliefsS (l : List BeliefsD) : Nat := l.length + (l.map costBeliefs).sum

structure FrameD where
  beliefs : BeliefsD
  assumed : List Int
  bad : List Int
def cFrame : Codec FrameD where
  size := 4
  rep := fun w cs x L => ∃ A1 c1 L1 A2 c2 L2 A3 c3 L3, cs = [.int .i64 x.beliefs.nodes, .slice A1 x.beliefs.reasons.length c1, .slice A2 x.assumed.length c2, .slice A3 x.bad.length c3] ∧ L = L1 ++ (L2 ++ L3) ∧ x.beliefs.reasons.length ≤ c1 ∧ c1 ≤ maxLen ∧ Sli cReason w A1 x.beliefs.reasons L1 ∧ x.assumed.length ≤ c2 ∧ c2 ≤ maxLen ∧ Sli intC w A2 x.assumed L2 ∧ x.bad.length ≤ c3 ∧ c3 ≤ maxLen ∧ Sli intC w A3 x.bad L3
  len := fun ⟨A1, c1, L1, A2, c2, L2, A3, c3, L3, h, hL, n1, m1, s1, n2, m2, s2, n3, m3, s3⟩ => by simp [h]
  keep := fun ⟨A1, c1, L1, A2, c2, L2, A3, c3, L3, h, hL, n1, m1, s1, n2, m2, s2, n3, m3, s3⟩ hk => ⟨A1, c1, L1, A2, c2, L2, A3, c3, L3, h, hL, n1, m1, s1.keep (fun b m => hk b (by simp [hL, m])), n2, m2, s2.keep (fun b m => hk b (by simp [hL, m])), n3, m3, s3.keep (fun b m => hk b (by simp [hL, m]))⟩
  lt := fun ⟨A1, c1, L1, A2, c2, L2, A3, c3, L3, h, hL, n1, m1, s1, n2, m2, s2, n3, m3, s3⟩ => by intro b m; simp only [hL, List.mem_append] at m; rcases m with m | m | m <;> first | exact s1.lt b m | exact s2.lt b m | exact s3.lt b m
  one := fun ⟨A1, c1, L1, A2, c2, L2, A3, c3, L3, h, hL, n1, m1, s1, n2, m2, s2, n3, m3, s3⟩ => by simp [h, Value.oneCell']
  pos := by omega
theorem cFrame_cells {w : World} {cs : List Value} {x : FrameD} {L : List Nat} (h : cFrame.rep w cs x L) : ∃ A1 c1 A2 c2 A3 c3, cs = [.int .i64 x.beliefs.nodes, .slice A1 x.beliefs.reasons.length c1, .slice A2 x.assumed.length c2, .slice A3 x.bad.length c3] := by
  obtain ⟨A1, c1, L1, A2, c2, L2, A3, c3, L3, h, hL, n1, m1, s1, n2, m2, s2, n3, m3, s3⟩ := h
  exact ⟨A1, c1, A2, c2, A3, c3, h⟩
def costFrame (x : FrameD) : Nat := costBeliefs x.beliefs + x.assumed.length + x.bad.length
def costFrameS (l : List FrameD) : Nat := l.length + (l.map costFrame).sum

structure StepD where
  fact : FactD
  rule : ByteArray
  uses : List Int
def cStep : Codec StepD where
  size := 4
  rep := fun w cs x L => ∃ A1 c1 L1 A2 c2 L2, cs = [.string x.fact.rel, .slice A1 x.fact.args.length c1, .string x.rule, .slice A2 x.uses.length c2] ∧ L = L1 ++ L2 ∧ x.fact.rel.size ≤ 9223372036854775807 ∧ x.rule.size ≤ 9223372036854775807 ∧ x.fact.args.length ≤ c1 ∧ c1 ≤ maxLen ∧ Sli strC w A1 x.fact.args L1 ∧ x.uses.length ≤ c2 ∧ c2 ≤ maxLen ∧ Sli intC w A2 x.uses L2
  len := fun ⟨A1, c1, L1, A2, c2, L2, h, hL, t0, t1, n1, m1, s1, n2, m2, s2⟩ => by simp [h]
  keep := fun ⟨A1, c1, L1, A2, c2, L2, h, hL, t0, t1, n1, m1, s1, n2, m2, s2⟩ hk => ⟨A1, c1, L1, A2, c2, L2, h, hL, t0, t1, n1, m1, s1.keep (fun b m => hk b (by simp [hL, m])), n2, m2, s2.keep (fun b m => hk b (by simp [hL, m]))⟩
  lt := fun ⟨A1, c1, L1, A2, c2, L2, h, hL, t0, t1, n1, m1, s1, n2, m2, s2⟩ => by intro b m; simp only [hL, List.mem_append] at m; rcases m with m | m <;> first | exact s1.lt b m | exact s2.lt b m
  one := fun ⟨A1, c1, L1, A2, c2, L2, h, hL, t0, t1, n1, m1, s1, n2, m2, s2⟩ => by simp [h, Value.oneCell']
  pos := by omega
theorem cStep_cells {w : World} {cs : List Value} {x : StepD} {L : List Nat} (h : cStep.rep w cs x L) : ∃ A1 c1 A2 c2, cs = [.string x.fact.rel, .slice A1 x.fact.args.length c1, .string x.rule, .slice A2 x.uses.length c2] := by
  obtain ⟨A1, c1, L1, A2, c2, L2, h, hL, t0, t1, n1, m1, s1, n2, m2, s2⟩ := h
  exact ⟨A1, c1, A2, c2, h⟩
def costStep (x : StepD) : Nat := costFact x.fact + x.rule.size + x.uses.length
def costStepS (l : List StepD) : Nat := l.length + (l.map costStep).sum

structure MissD where
  rule : ByteArray
  done : Int
  cond : ByteArray
def cMiss : Codec MissD where
  size := 3
  rep := fun w cs x L => cs = [.string x.rule, .int .i64 x.done, .string x.cond] ∧ L = [] ∧ x.rule.size ≤ 9223372036854775807 ∧ x.cond.size ≤ 9223372036854775807
  len := fun h => by simp [h.1]
  keep := fun h _ => h
  lt := fun h => by simp [h.2.1]
  one := fun h => by simp [h.1, Value.oneCell']
  pos := by omega
theorem cMiss_cells {w : World} {cs : List Value} {x : MissD} {L : List Nat} (h : cMiss.rep w cs x L) : cs = [.string x.rule, .int .i64 x.done, .string x.cond] := by
  exact h.1
def costMiss (x : MissD) : Nat := x.rule.size + x.cond.size
def costMissS (l : List MissD) : Nat := l.length + (l.map costMiss).sum

structure DeskD where
  engine : EngineD
  network : NetworkD
def cDesk : Codec DeskD where
  size := 12
  rep := fun w cs x L => ∃ A1 c1 L1 A2 c2 L2 A3 c3 L3 A4 c4 L4 A5 c5 L5 A6 c6 L6 A7 c7 L7 A8 c8 L8 A9 c9 L9, cs = [.slice A1 x.engine.rules.length c1, .slice A2 x.engine.memory.length c2, .int .i64 x.engine.clock, .slice A3 x.engine.fired.length c3, .bool x.engine.halted, .slice A4 x.engine.log.length c4, .slice A5 x.network.rules.length c5, .slice A6 x.network.ends.length c6, .slice A7 x.network.alphas.length c7, .slice A8 x.network.nodes.length c8, .slice A9 x.network.facts.length c9, .int .i64 x.network.tries] ∧ L = L1 ++ (L2 ++ (L3 ++ (L4 ++ (L5 ++ (L6 ++ (L7 ++ (L8 ++ L9))))))) ∧ x.engine.rules.length ≤ c1 ∧ c1 ≤ maxLen ∧ Sli cRule w A1 x.engine.rules L1 ∧ x.engine.memory.length ≤ c2 ∧ c2 ≤ maxLen ∧ Sli cStamp w A2 x.engine.memory L2 ∧ x.engine.fired.length ≤ c3 ∧ c3 ≤ maxLen ∧ Sli cFiring w A3 x.engine.fired L3 ∧ x.engine.log.length ≤ c4 ∧ c4 ≤ maxLen ∧ Sli cEvent w A4 x.engine.log L4 ∧ x.network.rules.length ≤ c5 ∧ c5 ≤ maxLen ∧ Sli cRule w A5 x.network.rules L5 ∧ x.network.ends.length ≤ c6 ∧ c6 ≤ maxLen ∧ Sli intC w A6 x.network.ends L6 ∧ x.network.alphas.length ≤ c7 ∧ c7 ≤ maxLen ∧ Sli cAlpha w A7 x.network.alphas L7 ∧ x.network.nodes.length ≤ c8 ∧ c8 ≤ maxLen ∧ Sli cNode w A8 x.network.nodes L8 ∧ x.network.facts.length ≤ c9 ∧ c9 ≤ maxLen ∧ Sli cFact w A9 x.network.facts L9
  len := fun ⟨A1, c1, L1, A2, c2, L2, A3, c3, L3, A4, c4, L4, A5, c5, L5, A6, c6, L6, A7, c7, L7, A8, c8, L8, A9, c9, L9, h, hL, n1, m1, s1, n2, m2, s2, n3, m3, s3, n4, m4, s4, n5, m5, s5, n6, m6, s6, n7, m7, s7, n8, m8, s8, n9, m9, s9⟩ => by simp [h]
  keep := fun ⟨A1, c1, L1, A2, c2, L2, A3, c3, L3, A4, c4, L4, A5, c5, L5, A6, c6, L6, A7, c7, L7, A8, c8, L8, A9, c9, L9, h, hL, n1, m1, s1, n2, m2, s2, n3, m3, s3, n4, m4, s4, n5, m5, s5, n6, m6, s6, n7, m7, s7, n8, m8, s8, n9, m9, s9⟩ hk => ⟨A1, c1, L1, A2, c2, L2, A3, c3, L3, A4, c4, L4, A5, c5, L5, A6, c6, L6, A7, c7, L7, A8, c8, L8, A9, c9, L9, h, hL, n1, m1, s1.keep (fun b m => hk b (by simp [hL, m])), n2, m2, s2.keep (fun b m => hk b (by simp [hL, m])), n3, m3, s3.keep (fun b m => hk b (by simp [hL, m])), n4, m4, s4.keep (fun b m => hk b (by simp [hL, m])), n5, m5, s5.keep (fun b m => hk b (by simp [hL, m])), n6, m6, s6.keep (fun b m => hk b (by simp [hL, m])), n7, m7, s7.keep (fun b m => hk b (by simp [hL, m])), n8, m8, s8.keep (fun b m => hk b (by simp [hL, m])), n9, m9, s9.keep (fun b m => hk b (by simp [hL, m]))⟩
  lt := fun ⟨A1, c1, L1, A2, c2, L2, A3, c3, L3, A4, c4, L4, A5, c5, L5, A6, c6, L6, A7, c7, L7, A8, c8, L8, A9, c9, L9, h, hL, n1, m1, s1, n2, m2, s2, n3, m3, s3, n4, m4, s4, n5, m5, s5, n6, m6, s6, n7, m7, s7, n8, m8, s8, n9, m9, s9⟩ => by intro b m; simp only [hL, List.mem_append] at m; rcases m with m | m | m | m | m | m | m | m | m <;> first | exact s1.lt b m | exact s2.lt b m | exact s3.lt b m | exact s4.lt b m | exact s5.lt b m | exact s6.lt b m | exact s7.lt b m | exact s8.lt b m | exact s9.lt b m
  one := fun ⟨A1, c1, L1, A2, c2, L2, A3, c3, L3, A4, c4, L4, A5, c5, L5, A6, c6, L6, A7, c7, L7, A8, c8, L8, A9, c9, L9, h, hL, n1, m1, s1, n2, m2, s2, n3, m3, s3, n4, m4, s4, n5, m5, s5, n6, m6, s6, n7, m7, s7, n8, m8, s8, n9, m9, s9⟩ => by simp [h, Value.oneCell']
  pos := by omega
theorem cDesk_cells {w : World} {cs : List Value} {x : DeskD} {L : List Nat} (h : cDesk.rep w cs x L) : ∃ A1 c1 A2 c2 A3 c3 A4 c4 A5 c5 A6 c6 A7 c7 A8 c8 A9 c9, cs = [.slice A1 x.engine.rules.length c1, .slice A2 x.engine.memory.length c2, .int .i64 x.engine.clock, .slice A3 x.engine.fired.length c3, .bool x.engine.halted, .slice A4 x.engine.log.length c4, .slice A5 x.network.rules.length c5, .slice A6 x.network.ends.length c6, .slice A7 x.network.alphas.length c7, .slice A8 x.network.nodes.length c8, .slice A9 x.network.facts.length c9, .int .i64 x.network.tries] := by
  obtain ⟨A1, c1, L1, A2, c2, L2, A3, c3, L3, A4, c4, L4, A5, c5, L5, A6, c6, L6, A7, c7, L7, A8, c8, L8, A9, c9, L9, h, hL, n1, m1, s1, n2, m2, s2, n3, m3, s3, n4, m4, s4, n5, m5, s5, n6, m6, s6, n7, m7, s7, n8, m8, s8, n9, m9, s9⟩ := h
  exact ⟨A1, c1, A2, c2, A3, c3, A4, c4, A5, c5, A6, c6, A7, c7, A8, c8, A9, c9, h⟩
def costDesk (x : DeskD) : Nat := costEngine x.engine + costNetwork x.network
def costDeskS (l : List DeskD) : Nat := l.length + (l.map costDesk).sum

end Go.Proofs.Ytfmplnebdldpdaa
