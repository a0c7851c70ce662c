import Derived.Test.YtmnnmgfjlokmkaaGreatAbsSlim
import Derived.Laws.Strings
namespace Go.Abs
abbrev Env := List (Nat × AV)
def lk : Env → Nat → Option AV
 | [], _ => none
 | (i, v) :: l, t => if i = t then some v else lk l t
abbrev Lk := Nat → Option AV
def Sat (E : Lk) (rg : Nat → AV) : Prop := ∀ t v, E t = some v → rg t = v
theorem Sat.put {E : Env} {rg : Nat → AV} (h : Sat (lk E) rg) (d : Nat) (v : AV) : Sat (lk ((d, v) :: E)) (upd rg d v) := by
 intro t u e
 simp only [lk] at e
 unfold upd
 split at e
 ·rename_i hd
  simp only [Option.some.injEq] at e
  rw [if_pos hd.symm, e]
 ·rename_i hd
  rw [if_neg (fun h => hd h.symm)]
  exact h t u e
def ev (E : Lk) : SX → Option AV
 | .r t => E t
 | .c v => some v
theorem ev_sound {A : Ann} {E : Lk} {rg : Nat → AV} (hs : Sat E rg) {x : Operand} {y : SX} (hx : slX A x = some y) {v : AV} (he : ev E y = some v) : evalA A rg x = some v := by
 cases x with
 | tmp t =>
  simp only [slX, Option.some.injEq] at hx
  subst hx
  simp only [evalA, hs t v he]
 | const c =>
  simp only [slX, Option.map_eq_some_iff] at hx
  obtain ⟨a, h1, rfl⟩ := hx
  simp only [ev, Option.some.injEq] at he
  simp only [evalA, h1, he]
 | global g =>
  simp only [slX, Option.map_eq_some_iff] at hx
  obtain ⟨a, h1, rfl⟩ := hx
  simp only [ev, Option.some.injEq] at he
  simp only [evalA, h1, Option.map_some, he]
 | func g =>
  simp only [slX, Option.some.injEq] at hx
  subst hx
  simp only [ev, Option.some.injEq] at he
  simp only [evalA, he]
def bin2 (op : BinOp) (x y : AV) : Option (Prop × AV) :=
 match x, y with
 | .int k a, .int k' b => match op with
  | .shl => some (0 ≤ b, .int k (k.wrap (a * 2 ^ (min b.toNat k.bits))))
  | .shr => some (0 ≤ b, .int k (a.fdiv (2 ^ (min b.toNat k.bits))))
  | op => if k = k' then match op with
   | .add => some (True, .int k (k.wrap (a + b)))
   | .sub => some (True, .int k (k.wrap (a - b)))
   | .mul => some (True, .int k (k.wrap (a * b)))
   | .quo => some (b ≠ 0, .int k (k.wrap (a.tdiv b)))
   | .rem => some (b ≠ 0, .int k (a.tmod b))
   | .and => some (True, .int k (k.wrap ((BitVec.ofInt k.bits a &&& BitVec.ofInt k.bits b).toNat)))
   | .or => some (True, .int k (k.wrap ((BitVec.ofInt k.bits a ||| BitVec.ofInt k.bits b).toNat)))
   | .xor => some (True, .int k (k.wrap ((BitVec.ofInt k.bits a ^^^ BitVec.ofInt k.bits b).toNat)))
   | .andNot => some (True, .int k (k.wrap ((BitVec.ofInt k.bits a &&& ~~~ BitVec.ofInt k.bits b).toNat)))
   | .eql => some (True, .bool (decide (a = b)))
   | .neq => some (True, .bool (!decide (a = b)))
   | .lss => some (True, .bool (decide (a < b)))
   | .leq => some (True, .bool (decide (a ≤ b)))
   | .gtr => some (True, .bool (decide (b < a)))
   | .geq => some (True, .bool (decide (b ≤ a)))
   | _ => none
   else none
 | .str a, .str b => match op with
  | .add => some (a.length + b.length ≤ 9223372036854775807, .str (a ++ b))
  | .eql => some (True, .bool (decide (a = b)))
  | .neq => some (True, .bool (!decide (a = b)))
  | _ => none
 | _, _ => none
theorem bin_shl {P : Program} {t : TypeId} {ox oy : Operand} {k k' : IntKind} {a b : Int} (hb : 0 ≤ b) : binA P .shl t ox oy (.int k a) (.int k' b) = some (.int k (k.wrap (a * 2 ^ (min b.toNat k.bits)))) := by
 have : (do eqGuard .shl t ox oy (.int k a) (.int k' b); binOp .shl t (.int k a) (.int k' b) : Sem Value) = Op.shift .shl k a k' b := rfl
 unfold binA
 simp only [conc, toScalar, this]
 unfold Op.shift
 rw [if_neg (by omega)]
 rfl
theorem bin_shr {P : Program} {t : TypeId} {ox oy : Operand} {k k' : IntKind} {a b : Int} (hb : 0 ≤ b) : binA P .shr t ox oy (.int k a) (.int k' b) = some (.int k (a.fdiv (2 ^ (min b.toNat k.bits)))) := by
 have : (do eqGuard .shr t ox oy (.int k a) (.int k' b); binOp .shr t (.int k a) (.int k' b) : Sem Value) = Op.shift .shr k a k' b := rfl
 unfold binA
 simp only [conc, toScalar, this]
 unfold Op.shift
 rw [if_neg (by omega)]
 rfl
theorem str_beq (a b : List UInt8) : (a == b) = decide (a = b) := by
 by_cases h : a = b
 ·simp [h]
 ·simp [h]
theorem bin2_sound {P : Program} {op : BinOp} {t : TypeId} {ox oy : Operand} {x y v : AV} {p : Prop} (h : bin2 op x y = some (p, v)) (hp : p) : binA P op t ox oy x y = some v := by
 cases x with
 | int k a =>
  cases y with
  | int k' b =>
   by_cases hk : k = k'
   ·subst hk
    cases op <;> simp only [bin2, if_true, Option.some.injEq, Prod.mk.injEq] at h <;> obtain ⟨rfl, rfl⟩ := h <;>
     first
     | exact bin_shl hp
     | exact bin_shr hp
     | skip
    all_goals simp only [binA, conc, toScalar]
    all_goals first
     | rfl
     | (show ((spr P (if k ≠ k then _ else Op.intDiv _ k a b)).bind ofv) = _
        rw [if_neg (by simp)]
        unfold Op.intDiv
        rw [if_neg hp]
        rfl)
     | (show ((spr P (if k ≠ k then _ else _)).bind ofv) = _
        rw [if_neg (by simp)]
        rfl)
     | trace_state
   ·cases op <;> simp only [bin2, if_neg hk, Option.some.injEq, Prod.mk.injEq, reduceCtorEq] at h <;> obtain ⟨rfl, rfl⟩ := h
    ·exact bin_shl hp
    ·exact bin_shr hp
  | _ => simp [bin2] at h
 | str a =>
  cases y with
  | str b =>
   cases op <;> simp only [bin2, Option.some.injEq, Prod.mk.injEq, reduceCtorEq] at h <;> obtain ⟨rfl, rfl⟩ := h <;>
     simp only [binA, conc, toScalar]
   ·show ((spr P (Op.stringOp .add ⟨a.toArray⟩ ⟨b.toArray⟩)).bind ofv) = _
    unfold Op.stringOp
    simp only
    rw [if_neg]
    ·show some (AV.str ((⟨a.toArray⟩ : ByteArray) ++ ⟨b.toArray⟩).data.toList) = _
     simp
    ·simp only [ByteArray.size, List.size_toArray, IntKind.max, IntKind.signed, IntKind.bits]
     omega
   ·show ((spr P (Op.stringOp .eql ⟨a.toArray⟩ ⟨b.toArray⟩)).bind ofv) = _
    unfold Op.stringOp
    simp only [ByteArray.toList_mk, str_beq]
    rfl
   ·show ((spr P (Op.stringOp .neq ⟨a.toArray⟩ ⟨b.toArray⟩)).bind ofv) = _
    unfold Op.stringOp
    simp only [ByteArray.toList_mk, str_beq]
    rfl
  | _ => simp [bin2] at h
 | _ => simp [bin2] at h
def setL : List AV → Nat → AV → Option (List AV)
 | _ :: l, 0, v => some (v :: l)
 | a :: l, i + 1, v => match setL l i v with
  | some r => some (a :: r)
  | none => none
 | [], _, _ => none
def putL : List AV → Nat → List AV → Option (List AV)
 | cs, _, [] => some cs
 | cs, o, v :: vs => match setL cs o v with
  | some r => putL r (o + 1) vs
  | none => none
def fillS (E : Lk) : List AV → List (Nat × Nat × SX) → Option (List AV)
 | cs, [] => some cs
 | cs, (o, s, x) :: r => match ev E x with
  | none => none
  | some v => match v with
   | .agg vs => if vs.length = s ∧ 0 < s then (match putL cs o vs with
    | some cs => fillS E cs r
    | none => none) else none
   | v => if s = 1 then (match setL cs o v with
    | some cs => fillS E cs r
    | none => none) else none
def evS (E : Lk) : List SX → Option (List AV)
 | [] => some []
 | x :: l => match ev E x, evS E l with
  | some a, some r => some (a :: r)
  | _, _ => none
def evI (E : Lk) (d : Int) : Option SX → Option Int
 | none => some d
 | some x => match ev E x with
  | some (.int _ n) => some n
  | _ => none
def mnxI (mx : Bool) (k : IntKind) : Int → List AV → Option Int
 | m, [] => some m
 | m, .int k' b :: l => if k = k' then mnxI mx k (if mx then max m b else min m b) l else none
 | _, _ :: _ => none
def eqC : Nat → AV → AV → Option Bool
 | 0, .int k a, .int k' b => if k = k' then some (a == b) else none
 | 1, .str a, .str b => some (a == b)
 | 2, .bool a, .bool b => some (a == b)
 | _, _, _ => none
def eqCells (cs ds : List AV) : List (Nat × Nat) → Option Bool
 | [] => some true
 | (o, t) :: r => match cs[o]?, ds[o]? with
  | some a, some b => (match eqC t a b with
   | some true => eqCells cs ds r
   | some false => some false
   | none => none)
  | _, _ => none
def scal : AV → Bool
 | .int _ _ | .str _ | .bool _ => true
 | _ => false
def sv (E : Lk) : SK → Option (Prop × AV)
 | .mif t x => match ev E x with
  | some v => some (True, .ifc t v)
  | none => none
 | .tas t ok x => match ev E x with
  | some (.ifc u w) => if u = t then some (True, if ok then .tup [w, .bool true] else w) else none
  | _ => none
 | .eqs neg offs x y => match ev E x, ev E y with
  | some (.agg cs), some (.agg ds) => if cs.all scal && ds.all scal then (match eqCells cs ds offs with
   | some b => some (True, .bool (if neg then !b else b))
   | none => none) else none
  | _, _ => none
 | .mv x => match ev E x with
  | some a => some (True, a)
  | none => none
 | .pick c a b => match ev E c with
  | some (.bool true) => (match ev E a with
   | some v => some (True, v)
   | none => none)
  | some (.bool false) => (match ev E b with
   | some v => some (True, v)
   | none => none)
  | _ => none
 | .bin op x y => match ev E x, ev E y with
  | some a, some b => bin2 op a b
  | _, _ => none
 | .beq neg x y => match ev E x, ev E y with
  | some (.bool a), some (.bool b) => some (True, .bool (if neg then !(a == b) else a == b))
  | _, _ => none
 | .isnil neg k x => match ev E x with
  | some v => match isNilA v, kindOfA v with
   | some b, some k' => if k' = k then some (True, .bool (if neg then !b else b)) else none
   | _, _ => none
  | none => none
 | .un op x => match op, ev E x with
  | .neg, some (.int k n) => some (True, .int k (k.wrap (0 - n)))
  | .xor, some (.int k n) => some (True, .int k (k.wrap ((BitVec.ofInt k.bits (if k.signed then -1 else k.max) ^^^ BitVec.ofInt k.bits n).toNat)))
  | .not, some (.bool b) => some (True, .bool (!b))
  | _, _ => none
 | .fa x o => match ev E x with
  | some (.tptr cs k) => some (True, .tptr cs (k + o))
  | some (.ptr id k) => some (True, .ptr id (k + o))
  | _ => none
 | .ia x i n s => match ev E x, ev E i, n with
  | some (.tptr cs k), some (.int _ i), some n => some (0 ≤ i ∧ i < n, .tptr cs (k + i.toNat * s))
  | some (.ptr id k), some (.int _ i), some n => some (0 ≤ i ∧ i < n, .ptr id (k + i.toNat * s))
  | some (.tsl cs len), some (.int _ i), none => some (0 ≤ i ∧ i < len, .tptr cs (i.toNat * s))
  | some (.sl id off len sz), some (.int _ i), none => some (s = sz ∧ 0 ≤ i ∧ i < len, .ptr id (off + i.toNat * sz))
  | _, _, _ => none
 | .ld x none => match ev E x with
  | some (.tptr cs o) => (match cs[o]? with
   | some v => some (True, v)
   | none => none)
  | _ => none
 | .ld x (some n) => match ev E x with
  | some (.tptr cs o) => (match sliceL cs o n with
   | some l => some (True, .agg l)
   | none => none)
  | _ => none
 | .fld x o none => match ev E x with
  | some (.agg cs) => (match cs[o]? with
   | some v => some (True, v)
   | none => none)
  | _ => none
 | .fld x o (some n) => match ev E x with
  | some (.agg cs) => (match sliceL cs o n with
   | some l => some (True, .agg l)
   | none => none)
  | _ => none
 | .ixs x i => match ev E x, ev E i with
  | some (.str t), some (.int _ i) => some (0 ≤ i ∧ i < t.length, .int .u8 (t.getD i.toNat 0).toNat)
  | _, _ => none
 | .ixa x i n s none => match ev E x, ev E i with
  | some (.agg cs), some (.int _ i) => some (0 ≤ i ∧ i < n ∧ i.toNat * s < cs.length, cs.getD (i.toNat * s) .undef)
  | _, _ => none
 | .ixa x i n s (some m) => match ev E x, ev E i with
  | some (.agg cs), some (.int _ i) => some (0 ≤ i ∧ i < n ∧ i.toNat * s + m ≤ cs.length, .agg ((cs.drop (i.toNat * s)).take m))
  | _, _ => none
 | .ext x i => match ev E x with
  | some (.tup vs) => (match vs[i]? with
   | some v => some (True, v)
   | none => none)
  | _ => none
 | .len x (some n) => match ev E x with
  | some _ => some (True, .int .i64 n)
  | none => none
 | .lens x => match ev E x with
  | some (.str s) => some (True, .int .i64 s.length)
  | _ => none
 | .len x none => match ev E x with
  | some (.nil .sl) => some (True, .int .i64 0)
  | some (.sl _ _ n _) => some (True, .int .i64 n)
  | some (.tsl _ n) => some (True, .int .i64 n)
  | _ => none
 | .cv k x => match ev E x with
  | some (.int _ n) => some (True, .int k (k.wrap n))
  | _ => none
 | .ss x => match ev E x with
  | some (.str s) => some (True, .str s)
  | _ => none
 | .chk x => match ev E x with
  | some v => match isNilA v with
   | some false => some (True, v)
   | _ => none
  | none => none
 | .bld z ps => match fillS E z ps with
  | some cs => some (True, .agg cs)
  | none => none
 | .mkf f a b => match evS E a, evS E b with
  | some a, some b => some (True, .fn f a b)
  | _, _ => none
 | .slt x lo hi s => match ev E x with
  | some (.nil .sl) => (match evI E 0 lo, evI E 0 hi with
   | some l, some h => some (l = 0 ∧ h = 0, .nil .sl)
   | _, _ => none)
  | some (.tsl cs len) => (match evI E 0 lo, evI E len hi with
   | some l, some h => some (0 ≤ l ∧ l ≤ h ∧ h ≤ len, .tsl ((cs.take (h.toNat * s)).drop (l.toNat * s)) (h.toNat - l.toNat))
   | _, _ => none)
  | some (.sl id off len sz) => (match evI E 0 lo, evI E len hi with
   | some l, some h => some (s = sz ∧ 0 ≤ l ∧ l ≤ h ∧ h ≤ len, .sl id (off + l.toNat * sz) (h.toNat - l.toNat) sz)
   | _, _ => none)
  | _ => none
 | .sls x lo hi => match ev E x with
  | some (.str t) => (match evI E 0 lo, evI E t.length hi with
   | some l, some h => some (0 ≤ l ∧ l ≤ h ∧ h ≤ t.length, .str ((t.take h.toNat).drop l.toNat))
   | _, _ => none)
  | _ => none
 | .b2s x => match ev E x with
  | some (.nil .sl) => some (True, .str [])
  | some (.tsl cs len) => (match sliceL cs 0 len with
   | some l => (match bytesOfA l with
    | some b => some (True, .str b)
    | none => none)
   | none => none)
  | _ => none
 | .box x => match ev E x with
  | some v => match v with
   | .agg cs => some (cs.all AV.one = true, .tptr cs 0)
   | v => some (v.one = true, .tptr [v] 0)
  | none => none
 | .mnx mx l => match evS E l with
  | some (.int k a :: r) => (match mnxI mx k a r with
   | some m => some (True, .int k m)
   | none => none)
  | _ => none
 | .bsl z s len ps => match fillS E z ps with
  | some cs => some (cs.length = len * s ∧ cs.all AV.one = true, .tsl cs len)
  | none => none
 | _ => none
end Go.Abs
