import Derived.Test.YtmnnmgfjlokmkaaGreatAbsSlimH
namespace Go.Abs
def ifB (p : Prop) [Decidable p] (v : AV) : Option AV := if p then some v else none
theorem ifB_some {p : Prop} [Decidable p] {v w : AV} (h : ifB p v = some w) : p ∧ v = w := by
  unfold ifB at h
  split at h
  · exact ⟨by assumption, by simpa using h⟩
  · cases h
def bin2B (op : BinOp) (x y : AV) : Option AV :=
  match x, y with
  | .int k a, .int k' b => match op with
    | .shl => ifB (0 ≤ b) (.int k (k.wrap (a * 2 ^ (min b.toNat k.bits))))
    | .shr => ifB (0 ≤ b) (.int k (a.fdiv (2 ^ (min b.toNat k.bits))))
    | op => if k = k' then match op with
      | .add => some (.int k (k.wrap (a + b)))
      | .sub => some (.int k (k.wrap (a - b)))
      | .mul => some (.int k (k.wrap (a * b)))
      | .quo => ifB (b ≠ 0) (.int k (k.wrap (a.tdiv b)))
      | .rem => ifB (b ≠ 0) (.int k (a.tmod b))
      | .and => some (.int k (k.wrap ((BitVec.ofInt k.bits a &&& BitVec.ofInt k.bits b).toNat)))
      | .or => some (.int k (k.wrap ((BitVec.ofInt k.bits a ||| BitVec.ofInt k.bits b).toNat)))
      | .xor => some (.int k (k.wrap ((BitVec.ofInt k.bits a ^^^ BitVec.ofInt k.bits b).toNat)))
      | .andNot => some (.int k (k.wrap ((BitVec.ofInt k.bits a &&& ~~~ BitVec.ofInt k.bits b).toNat)))
      | .eql => some (.bool (decide (a = b)))
      | .neq => some (.bool (!decide (a = b)))
      | .lss => some (.bool (decide (a < b)))
      | .leq => some (.bool (decide (a ≤ b)))
      | .gtr => some (.bool (decide (b < a)))
      | .geq => some (.bool (decide (b ≤ a)))
      | _ => none
      else none
  | .str a, .str b => match op with
    | .add => ifB (a.length + b.length ≤ 9223372036854775807) (.str (a ++ b))
    | .eql => some (.bool (decide (a = b)))
    | .neq => some (.bool (!decide (a = b)))
    | _ => none
  | _, _ => none
theorem bin2B_sound {op : BinOp} {x y v : AV} (h : bin2B op x y = some v) : ∃ p : Prop, bin2 op x y = some (p, v) ∧ p := by
  cases x <;> cases y <;> cases op <;> simp only [bin2B, bin2, reduceCtorEq] at h ⊢ <;>
    first
    | (obtain ⟨h1, rfl⟩ := ifB_some h; exact ⟨_, rfl, h1⟩)
    | (simp only [Option.some.injEq] at h; subst h; exact ⟨True, rfl, trivial⟩)
    | (split at h
       · rename_i hk
         rw [if_pos hk]
         first
         | (obtain ⟨h1, rfl⟩ := ifB_some h; exact ⟨_, rfl, h1⟩)
         | (simp only [Option.some.injEq] at h; subst h; exact ⟨True, rfl, trivial⟩)
         | cases h
       · cases h)
def svB (E : Lk) : SK → Option AV
  | .mv x => match ev E x with
    | some a => some (a)
    | none => none
  | .pick c a b => match ev E c with
    | some (.bool true) => (match ev E a with
      | some v => some (v)
      | none => none)
    | some (.bool false) => (match ev E b with
      | some v => some (v)
      | none => none)
    | _ => none
  | .bin op x y => match ev E x, ev E y with
    | some a, some b => bin2B op a b
    | _, _ => none
  | .beq neg x y => match ev E x, ev E y with
    | some (.bool a), some (.bool b) => some (.bool (if neg then !(a == b) else a == b))
    | _, _ => none
  | .isnil neg k x => match ev E x with
    | some v => match isNilA v, kindOfA v with
      | some b, some k' => if k' = k then some (.bool (if neg then !b else b)) else none
      | _, _ => none
    | none => none
  | .un op x => match op, ev E x with
    | .neg, some (.int k n) => some (.int k (k.wrap (0 - n)))
    | .xor, some (.int k n) => some (.int k (k.wrap ((BitVec.ofInt k.bits (if k.signed then -1 else k.max) ^^^ BitVec.ofInt k.bits n).toNat)))
    | .not, some (.bool b) => some (.bool (!b))
    | _, _ => none
  | .fa x o => match ev E x with
    | some (.tptr cs k) => some (.tptr cs (k + o))
    | some (.ptr id k) => some (.ptr id (k + o))
    | _ => none
  | .ia x i n s => match ev E x, ev E i, n with
    | some (.tptr cs k), some (.int _ i), some n => ifB (0 ≤ i ∧ i < n) (.tptr cs (k + i.toNat * s))
    | some (.ptr id k), some (.int _ i), some n => ifB (0 ≤ i ∧ i < n) (.ptr id (k + i.toNat * s))
    | some (.tsl cs len), some (.int _ i), none => ifB (0 ≤ i ∧ i < len) (.tptr cs (i.toNat * s))
    | some (.sl id off len sz), some (.int _ i), none => ifB (s = sz ∧ 0 ≤ i ∧ i < len) (.ptr id (off + i.toNat * sz))
    | _, _, _ => none
  | .ld x none => match ev E x with
    | some (.tptr cs o) => (match cs[o]? with
      | some v => some (v)
      | none => none)
    | _ => none
  | .ld x (some n) => match ev E x with
    | some (.tptr cs o) => (match sliceL cs o n with
      | some l => some (.agg l)
      | none => none)
    | _ => none
  | .fld x o none => match ev E x with
    | some (.agg cs) => (match cs[o]? with
      | some v => some (v)
      | none => none)
    | _ => none
  | .fld x o (some n) => match ev E x with
    | some (.agg cs) => (match sliceL cs o n with
      | some l => some (.agg l)
      | none => none)
    | _ => none
  | .ixs x i => match ev E x, ev E i with
    | some (.str t), some (.int _ i) => ifB (0 ≤ i ∧ i < t.length) (.int .u8 (t.getD i.toNat 0).toNat)
    | _, _ => none
  | .ixa x i n s none => match ev E x, ev E i with
    | some (.agg cs), some (.int _ i) => ifB (0 ≤ i ∧ i < n ∧ i.toNat * s < cs.length) (cs.getD (i.toNat * s) .undef)
    | _, _ => none
  | .ixa x i n s (some m) => match ev E x, ev E i with
    | some (.agg cs), some (.int _ i) => ifB (0 ≤ i ∧ i < n ∧ i.toNat * s + m ≤ cs.length) (.agg ((cs.drop (i.toNat * s)).take m))
    | _, _ => none
  | .ext x i => match ev E x with
    | some (.tup vs) => (match vs[i]? with
      | some v => some (v)
      | none => none)
    | _ => none
  | .len x (some n) => match ev E x with
    | some _ => some (.int .i64 n)
    | none => none
  | .lens x => match ev E x with
    | some (.str s) => some (.int .i64 s.length)
    | _ => none
  | .len x none => match ev E x with
    | some (.nil .sl) => some (.int .i64 0)
    | some (.sl _ _ n _) => some (.int .i64 n)
    | some (.tsl _ n) => some (.int .i64 n)
    | _ => none
  | .cv k x => match ev E x with
    | some (.int _ n) => some (.int k (k.wrap n))
    | _ => none
  | .ss x => match ev E x with
    | some (.str s) => some (.str s)
    | _ => none
  | .chk x => match ev E x with
    | some v => match isNilA v with
      | some false => some (v)
      | _ => none
    | none => none
  | .bld z ps => match fillS E z ps with
    | some cs => some (.agg cs)
    | none => none
  | .mkf f a b => match evS E a, evS E b with
    | some a, some b => some (.fn f a b)
    | _, _ => none
  | .slt x lo hi s => match ev E x with
    | some (.nil .sl) => (match evI E 0 lo, evI E 0 hi with
      | some l, some h => ifB (l = 0 ∧ h = 0) (.nil .sl)
      | _, _ => none)
    | some (.tsl cs len) => (match evI E 0 lo, evI E len hi with
      | some l, some h => ifB (0 ≤ l ∧ l ≤ h ∧ h ≤ len) (.tsl ((cs.take (h.toNat * s)).drop (l.toNat * s)) (h.toNat - l.toNat))
      | _, _ => none)
    | some (.sl id off len sz) => (match evI E 0 lo, evI E len hi with
      | some l, some h => ifB (s = sz ∧ 0 ≤ l ∧ l ≤ h ∧ h ≤ len) (.sl id (off + l.toNat * sz) (h.toNat - l.toNat) sz)
      | _, _ => none)
    | _ => none
  | .sls x lo hi => match ev E x with
    | some (.str t) => (match evI E 0 lo, evI E t.length hi with
      | some l, some h => ifB (0 ≤ l ∧ l ≤ h ∧ h ≤ t.length) (.str ((t.take h.toNat).drop l.toNat))
      | _, _ => none)
    | _ => none
  | .b2s x => match ev E x with
    | some (.nil .sl) => some (.str [])
    | some (.tsl cs len) => (match sliceL cs 0 len with
      | some l => (match bytesOfA l with
        | some b => some (.str b)
        | none => none)
      | none => none)
    | _ => none
  | .box x => match ev E x with
    | some v => match v with
      | .agg cs => ifB (cs.all AV.one = true) (.tptr cs 0)
      | v => ifB (v.one = true) (.tptr [v] 0)
    | none => none
  | .mnx mx l => match evS E l with
    | some (.int k a :: r) => (match mnxI mx k a r with
      | some m => some (.int k m)
      | none => none)
    | _ => none
  | .bsl z s len ps => match fillS E z ps with
    | some cs => ifB (cs.length = len * s ∧ cs.all AV.one = true) (.tsl cs len)
    | none => none
  | .mif t x => match ev E x with
    | some v => some (.ifc t v)
    | none => none
  | .tas t ok x => match ev E x with
    | some (.ifc u w) => if u = t then some (if ok then .tup [w, .bool true] else w) else none
    | _ => none
  | .eqs neg offs x y => match ev E x, ev E y with
    | some (.agg cs), some (.agg ds) => if cs.all scal && ds.all scal then (match eqCells cs ds offs with
      | some b => some (.bool (if neg then !b else b))
      | none => none) else none
    | _, _ => none
  | _ => none
theorem svB_sound {E : Lk} {k : SK} {v : AV} (h : svB E k = some v) : ∃ p : Prop, sv E k = some (p, v) ∧ p := by
  cases k with
  | bin op x y =>
    simp only [svB] at h
    split at h
    · rename_i a b ha hb
      obtain ⟨p, h1, h2⟩ := bin2B_sound h
      exact ⟨p, by simp only [sv, ha, hb, h1], h2⟩
    · cases h
  | ld x n =>
    cases n <;> simp only [svB] at h <;> repeat' (split at h)
    all_goals first
      | (cases h; done)
      | (simp only [Option.some.injEq] at h; subst h; exact ⟨True, by first | (simp only [sv, *]; done) | simp [sv, *], trivial⟩)
  | fld x o n =>
    cases n <;> simp only [svB] at h <;> repeat' (split at h)
    all_goals first
      | (cases h; done)
      | (simp only [Option.some.injEq] at h; subst h; exact ⟨True, by first | (simp only [sv, *]; done) | simp [sv, *], trivial⟩)
  | ixa x i n s g =>
    cases g <;> simp only [svB] at h <;> repeat' (split at h)
    all_goals first
      | (cases h; done)
      | (obtain ⟨h1, h2⟩ := ifB_some h; subst h2; refine ⟨_, ?_, h1⟩; simp only [sv, *]; done)
  | len x n =>
    cases n <;> simp only [svB] at h <;> repeat' (split at h)
    all_goals first
      | (cases h; done)
      | (simp only [Option.some.injEq] at h; subst h; exact ⟨True, by first | (simp only [sv, *]; done) | simp [sv, *], trivial⟩)
  | _ =>
    simp only [svB, reduceCtorEq] at h
    try (repeat' (split at h))
    all_goals first
      | (cases h; done)
      | (simp only [Option.some.injEq] at h; subst h; exact ⟨True, by first | (simp only [sv, *]; done) | simp [sv, *], trivial⟩)
      | (obtain ⟨h1, h2⟩ := ifB_some h; subst h2; refine ⟨_, ?_, h1⟩; simp only [sv, *]; done)
end Go.Abs
