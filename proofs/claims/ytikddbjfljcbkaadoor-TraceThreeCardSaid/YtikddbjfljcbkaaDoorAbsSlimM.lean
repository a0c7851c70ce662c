/- Further rules: parts that are not written out. -/
import Derived.Test.YtikddbjfljcbkaaDoorAbsBox
namespace Go.Abs

section
variable {P : Program} {A : Ann} {f nt : Nat} {E : Env} {bx : List Nat} {h : Heap} {Q : AX → Env → List Nat → Heap → Prop} {h0 : Heap} {q : Nat}

theorem fill_nil {cs : List AV} : fillS E cs [] = some cs := rfl
theorem fill_one {cs cs' out : List AV} {o : Nat} {x : SX} {v : AV} {r : List (Nat × Nat × SX)} (hx : ev E x = some v) (ho : v.one = true) (hs : setL cs o v = some cs') (H : fillS E cs' r = some out) : fillS E cs ((o, 1, x) :: r) = some out := by
  simp only [fillS, hx]
  cases v with
  | agg l => cases ho
  | _ => simp only [if_true, hs, H]
theorem fill_agg {cs cs' vs out : List AV} {o s : Nat} {x : SX} {r : List (Nat × Nat × SX)} (hx : ev E x = some (.agg vs)) (hl : vs.length = s) (h0 : 0 < s) (hs : putL cs o vs = some cs') (H : fillS E cs' r = some out) : fillS E cs ((o, s, x) :: r) = some out := by
  simp only [fillS, hx]
  rw [if_pos ⟨hl, h0⟩]
  simp only [hs, H]

theorem o_bld {d : Nat} {z cs : List AV} {ps : List (Nat × Nat × SX)} {r : List SO} (hlt : (decide (d < nt)) = true) (hf : fillS E z ps = some cs) (H : SOps P A f nt h0 (q - 1) r ((d, .agg cs) :: E) bx h Q) : SOps P A f nt h0 q (⟨some d, none, .bld z ps⟩ :: r) E bx h Q :=
  o_val (p := True) (v := .agg cs) hlt (by simp only [sv, hf]) trivial H
theorem o_bslT {d s n : Nat} {z cs : List AV} {ps : List (Nat × Nat × SX)} {r : List SO} (hlt : (decide (d < nt)) = true) (hf : fillS E z ps = some cs) (hl : cs.length = n * s) (ho : cs.all AV.one = true) (H : SOps P A f nt h0 (q - 1) r ((d, .tsl cs n) :: E) bx h Q) : SOps P A f nt h0 q (⟨some d, none, .bsl z s n ps⟩ :: r) E bx h Q :=
  o_val (p := cs.length = n * s ∧ cs.all AV.one = true) (v := .tsl cs n) hlt (by simp only [sv, hf]) ⟨hl, ho⟩ H

/- what is computed as it is wanted: a truth -/
theorem o_true {d : Nat} {k : SK} {r : List SO} {p : Prop} {e : Bool} (hlt : (decide (d < nt)) = true) (hv : sv E k = some (p, .bool e)) (hp : p) (he : e = true) (H : SOps P A f nt h0 (q - 1) r ((d, .bool true) :: E) bx h Q) :
    SOps P A f nt h0 q (⟨some d, none, k⟩ :: r) E bx h Q := by subst he; exact o_val hlt hv hp H

theorem NSl.one {k : IntKind} {v : AV} {l : List Int} (h : NSl k v l) : v.one = true := TSl.one h
theorem NSl.tree {k : IntKind} {v : AV} {l : List Int} (h : NSl k v l) : v.tree = true := TSl.tree h nums_trees
theorem NSl.atom {k : IntKind} {v : AV} {l : List Int} (h : NSl k v l) : v.atom = true := TSl.atom h

/- a cut of a slice of numbers -/
theorem o_sltN {d : Nat} {x : SX} {lo hi : Option SX} {r : List SO} {v : AV} {k : IntKind} {l : List Int} {a b : Nat} (hlt : (decide (d < nt)) = true) (hx : ev E x = some v) (hv : NSl k v l) (hlo : evI E 0 lo = some (a : Int)) (hhi : evI E l.length hi = some (b : Int)) (h2 : a ≤ b) (h3 : b ≤ l.length)
    (H : ∀ w, NSl k w ((l.take b).drop a) → SOps P A f nt h0 (q - 1) r ((d, w) :: E) bx h Q) : SOps P A f nt h0 q (⟨some d, none, .slt x lo hi 1⟩ :: r) E bx h Q :=
  o_sltT hlt hx hv hlo hhi (by omega) (by omega) (by omega) fun w hw => H w (by
    simp only [Int.toNat_natCast] at hw
    exact NSl.cut hv h3 hw)
end
end Go.Abs
