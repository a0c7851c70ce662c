import Derived.Calls
import Derived.Test.YtmnnmgfjlokmkaaGreatAbsView
import Derived.Test.YtmnnmgfjlokmkaaGreatAbsTy
import Derived.Test.YtmnnmgfjlokmkaaGreatAbsOwn
section
namespace Go.Img
abbrev B := List UInt8
def leb (u : Nat) : B := if u < 128 then [UInt8.ofNat u] else UInt8.ofNat (u % 128 + 128) :: leb (u / 128)
termination_by u
decreasing_by omega
def zz (n : Int) : Nat := if n < 0 then (-2 * n - 1).toNat else (2 * n).toNat
def unzz (u : Nat) : Int := if u % 2 = 1 then -((u / 2 : Nat) : Int) - 1 else ((u / 2 : Nat) : Int)
def put (n : Int) : B := leb (zz n)
inductive G where
 | ok (n : Int) (k : Nat)
 | err (e : Int)
 deriving DecidableEq
def getL : Nat → Nat → B → G
 | _, _, [] => .err 2
 | i, u, c :: r => if i = 9 ∧ 1 < c.toNat then .err 1 else
   if 127 < c.toNat then getL (i + 1) (u + c.toNat % 128 * 2 ^ (7 * i)) r
   else if 0 < i ∧ c.toNat = 0 then .err 1 else .ok (unzz (u + c.toNat % 128 * 2 ^ (7 * i))) (i + 1)
def get (b : B) : G := getL 0 0 b
def I64 (n : Int) : Prop := -9223372036854775808 ≤ n ∧ n ≤ 9223372036854775807
def I32 (n : Int) : Prop := -2147483648 ≤ n ∧ n ≤ 2147483647
theorem unzz_zz (n : Int) : unzz (zz n) = n := by
 unfold unzz zz
 by_cases h : n < 0
 ·rw [if_pos h]
  rw [if_pos (by omega)]
  omega
 ·rw [if_neg h]
  rw [if_neg (by omega)]
  omega
theorem zz_lt {n : Int} (h : I64 n) : zz n < 2 ^ 64 := by
 unfold zz I64 at *
 split <;> omega
theorem leb_pos (u : Nat) : 0 < (leb u).length := by
 rw [leb]
 split <;> simp
theorem getL_leb : ∀ (v i u : Nat) (r : B), v * 2 ^ (7 * i) < 2 ^ 64 → (i = 0 ∨ v ≠ 0) → getL i u (leb v ++ r) = .ok (unzz (u + v * 2 ^ (7 * i))) (i + (leb v).length) := by
 intro v
 induction v using Nat.strongRecOn with
 | _ v ih =>
  intro i u r hlt h0
  have hi : i ≤ 9 ∨ v = 0 := by
   rcases Nat.lt_or_ge 9 i with h | h
   ·right
    rcases Nat.eq_zero_or_pos v with hv | hv
    ·exact hv
    ·have : 2 ^ 70 ≤ 2 ^ (7 * i) := Nat.pow_le_pow_right (by omega) (by omega)
     have : 1 * 2 ^ (7 * i) ≤ v * 2 ^ (7 * i) := Nat.mul_le_mul_right _ hv
     omega
   ·exact .inl h
  have h9 : i = 9 → v ≤ 1 := by
   rintro rfl
   have : v * 2 ^ 63 < 2 ^ 64 := hlt
   omega
  rw [leb]
  split
  ·rename_i hv
   have e : (UInt8.ofNat v).toNat = v := by simp; omega
   simp only [List.cons_append, List.nil_append, getL, e]
   rw [if_neg (by omega), if_neg (by omega), if_neg (by omega), Nat.mod_eq_of_lt hv]
   rfl
  ·rename_i hv
   have e : (UInt8.ofNat (v % 128 + 128)).toNat = v % 128 + 128 := by simp; omega
   have hne : i ≠ 9 := fun h => by have := h9 h; omega
   simp only [List.cons_append, getL, e]
   rw [if_neg (by omega), if_pos (by omega)]
   have hp : 2 ^ (7 * (i + 1)) = 128 * 2 ^ (7 * i) := by rw [Nat.mul_add, Nat.pow_add, Nat.mul_comm]
   have hsum : v * 2 ^ (7 * i) = v % 128 * 2 ^ (7 * i) + v / 128 * 2 ^ (7 * (i + 1)) := by
    rw [hp, ← Nat.mul_assoc, ← Nat.add_mul]
    congr 1
    omega
   rw [ih (v / 128) (by omega) (i + 1) _ r (by omega) (.inr (by omega))]
   have e2 : (v % 128 + 128) % 128 = v % 128 := by omega
   rw [e2, hsum]
   simp only [List.length_cons]
   congr 1
   ·congr 1; omega
   ·omega
theorem get_put {n : Int} (h : I64 n) (r : B) : get (put n ++ r) = .ok n (put n).length := by
 unfold get put
 have := getL_leb (zz n) 0 0 r (by have := zz_lt h; simpa using this) (.inl rfl)
 rw [this]
 simp [unzz_zz]
theorem getL_ok : ∀ (b : B) (i u : Nat) {n : Int} {k : Nat}, i ≤ 9 → u < 2 ^ (7 * i) → getL i u b = .ok n k → I64 n ∧ i < k ∧ k ≤ i + b.length
 | [], i, u, n, k, _, _, h => by simp [getL] at h
 | c :: r, i, u, n, k, hi, hu, h => by
  have hc : c.toNat < 256 := c.toNat_lt
  rw [getL] at h
  split at h
  ·cases h
  ·rename_i h1
   split at h
   ·rename_i h2
    have hi' : i + 1 ≤ 9 := by
     rcases Nat.lt_or_ge i 9 with h | h
     ·omega
     ·exact absurd ⟨by omega, by omega⟩ h1
    have hp : 2 ^ (7 * (i + 1)) = 128 * 2 ^ (7 * i) := by rw [Nat.mul_add, Nat.pow_add, Nat.mul_comm]
    have hm : c.toNat % 128 * 2 ^ (7 * i) ≤ 127 * 2 ^ (7 * i) := Nat.mul_le_mul_right _ (by omega)
    have := getL_ok r (i + 1) _ hi' (by rw [hp]; omega) h
    simp only [List.length_cons]
    exact ⟨this.1, by omega, by omega⟩
   ·rename_i h2
    split at h
    ·cases h
    ·simp only [G.ok.injEq] at h
     obtain ⟨rfl, rfl⟩ := h
     refine ⟨?_, by omega, by simp only [List.length_cons]; omega⟩
     have hlt : u + c.toNat % 128 * 2 ^ (7 * i) < 2 ^ 64 := by
      rcases Nat.lt_or_ge i 9 with h9 | h9
      ·have : c.toNat % 128 * 2 ^ (7 * i) ≤ 127 * 2 ^ (7 * i) := Nat.mul_le_mul_right _ (by omega)
       have h63 : 2 ^ (7 * (i + 1)) ≤ 2 ^ 63 := Nat.pow_le_pow_right (by omega) (by omega)
       have hp : 2 ^ (7 * (i + 1)) = 128 * 2 ^ (7 * i) := by rw [Nat.mul_add, Nat.pow_add, Nat.mul_comm]
       omega
      ·obtain rfl : i = 9 := by omega
       have : c.toNat ≤ 1 := by
        rcases Nat.lt_or_ge 1 c.toNat with h | h
        ·exact absurd ⟨rfl, h⟩ h1
        ·exact h
       have : c.toNat % 128 * 2 ^ 63 ≤ 1 * 2 ^ 63 := Nat.mul_le_mul_right _ (by omega)
       have : u < 2 ^ 63 := hu
       show u + c.toNat % 128 * 2 ^ 63 < 2 ^ 64
       omega
     unfold unzz I64
     split <;> omega
theorem get_ok {b : B} {n : Int} {k : Nat} (h : get b = .ok n k) : I64 n ∧ 0 < k ∧ k ≤ b.length := by
 have := getL_ok b 0 0 (by omega) (by simp) h
 exact ⟨this.1, by omega, by omega⟩
abbrev Pa (α : Type) := B → Option (α × B)
def pNum : Pa Int := fun b => match get b with
 | .ok n k => some (n, b.drop k)
 | .err _ => none
def pMap {α β : Type} (f : α → β) (p : Pa α) : Pa β := fun b => (p b).map fun x => (f x.1, x.2)
def pBind {α β : Type} (p : Pa α) (f : α → Pa β) : Pa β := fun b => match p b with
 | some (a, b) => f a b
 | none => none
def pPure {α : Type} (a : α) : Pa α := fun b => some (a, b)
def pTruth : Pa Bool := pMap (fun n => decide (n ≠ 0)) pNum
def w32 (n : Int) : Int := (n + 2147483648) % 4294967296 - 2147483648
def pWord : Pa Int := pMap w32 pNum
def pText : Pa B := fun b => match get b with
 | .ok n k => if n < 0 ∨ 1048576 < n then none else if (b.length : Int) - k < n then none else some ((b.drop k).take n.toNat, b.drop (k + n.toNat))
 | .err _ => none
def pRep {α : Type} (p : Pa α) : Nat → Pa (List α)
 | 0 => pPure []
 | k + 1 => pBind p fun a => pMap (a :: ·) (pRep p k)
def pList {α : Type} (p : Pa α) : Pa (List α) := pBind pNum fun n => pRep p n.toNat
structure Cls where
 name : B
 super : Int
 init : Int
 array : Int
 elem : Int
 thrown : Bool
 refs : List Bool
 subs : List Int
 slots : List Int
 faces : List (Int × Int)
 deriving DecidableEq
abbrev Four := Int × Int × Int × Int
structure Mth where
 args : Int
 locals : Int
 stack : Int
 gives : Bool
 code : List Four
 traps : List Four
 deriving DecidableEq
structure Image where
 classes : List Cls
 methods : List Mth
 entry : Int
 need : Int
 given : List Int
 words : List Int
 rel : List Int
 stat : List Int
 statref : List Bool
 deriving DecidableEq
def pPair : Pa (Int × Int) := pBind pNum fun a => pMap (fun b => (a, b)) pNum
def pFour : Pa Four := pBind pNum fun a => pBind pNum fun b => pBind pNum fun c => pMap (fun d => (a, b, c, d)) pNum
def pCls : Pa Cls := pBind pText fun name => pBind pNum fun super => pBind pNum fun init => pBind pNum fun array => pBind pNum fun elem => pBind pTruth fun thrown =>
 pBind (pList pTruth) fun refs => pBind (pList pNum) fun subs => pBind (pList pNum) fun slots => pMap (fun faces => ⟨name, super, init, array, elem, thrown, refs, subs, slots, faces⟩) (pList pPair)
def pMth : Pa Mth := pBind pNum fun args => pBind pNum fun locals => pBind pNum fun stack => pBind pTruth fun gives => pBind (pList pFour) fun code => pMap (fun traps => ⟨args, locals, stack, gives, code, traps⟩) (pList pFour)
def pImage : Pa Image := pBind (pList pCls) fun classes => pBind (pList pMth) fun methods => pBind pNum fun entry => pBind pNum fun need =>
 pBind (pList pNum) fun given => pBind (pList pWord) fun words => pBind (pList pNum) fun rel => pBind (pList pWord) fun stat => pMap (fun statref => ⟨classes, methods, entry, need, given, words, rel, stat, statref⟩) (pList pTruth)
def eTruth (t : Bool) : B := put (if t then 1 else 0)
def eText (s : B) : B := put s.length ++ s
def eList {α : Type} (e : α → B) (l : List α) : B := put l.length ++ l.flatMap e
def ePair (p : Int × Int) : B := put p.1 ++ put p.2
def eFour (p : Four) : B := put p.1 ++ (put p.2.1 ++ (put p.2.2.1 ++ put p.2.2.2))
def eCls (c : Cls) : B := eText c.name ++ (put c.super ++ (put c.init ++ (put c.array ++ (put c.elem ++ (eTruth c.thrown ++ (eList eTruth c.refs ++ (eList put c.subs ++ (eList put c.slots ++ eList ePair c.faces))))))))
def eMth (m : Mth) : B := put m.args ++ (put m.locals ++ (put m.stack ++ (eTruth m.gives ++ (eList eFour m.code ++ eList eFour m.traps))))
def body (m : Image) : B := eList eCls m.classes ++ (eList eMth m.methods ++ (put m.entry ++ (put m.need ++ (eList put m.given ++ (eList put m.words ++ (eList put m.rel ++ (eList put m.stat ++ eList eTruth m.statref)))))))
def RT {α : Type} (p : Pa α) (e : α → B) (a : α) : Prop := ∀ r, p (e a ++ r) = some (a, r)
theorem rt_num {n : Int} (h : I64 n) : RT pNum put n := by
 intro r
 unfold pNum
 rw [get_put h]
 simp
theorem rt_truth (t : Bool) : RT pTruth eTruth t := by
 intro r
 have := rt_num (n := if t then 1 else 0) (by unfold I64; split <;> omega) r
 unfold pTruth pMap eTruth
 rw [this]
 cases t <;> rfl
theorem rt_word {n : Int} (h : I32 n) : RT pWord put n := by
 intro r
 have := rt_num (n := n) (by unfold I32 at h; unfold I64; omega) r
 unfold pWord pMap
 rw [this]
 simp only [Option.map_some, Option.some.injEq, Prod.mk.injEq, and_true]
 unfold w32 I32 at *
 omega
theorem rt_text {s : B} (h : s.length ≤ 1048576) : RT pText eText s := by
 intro r
 unfold pText eText
 rw [List.append_assoc, get_put (by unfold I64; omega)]
 simp only
 rw [if_neg (by omega), if_neg (by simp only [List.length_append]; omega)]
 have e : (put s.length ++ (s ++ r)).drop (put s.length).length = s ++ r := by simp
 rw [e, ← List.drop_drop, e]
 simp
theorem rt_rep {α : Type} {p : Pa α} {e : α → B} : ∀ {l : List α}, (∀ a ∈ l, RT p e a) → ∀ r, pRep p l.length (l.flatMap e ++ r) = some (l, r)
 | [], _, r => rfl
 | a :: l, h, r => by
  show pBind p (fun a => pMap (a :: ·) (pRep p l.length)) (((a :: l).flatMap e) ++ r) = _
  rw [List.flatMap_cons, List.append_assoc]
  unfold pBind
  rw [h a (by simp) _]
  simp only
  unfold pMap
  rw [rt_rep (fun b hb => h b (by simp [hb])) r]
  rfl
theorem rt_list {α : Type} {p : Pa α} {e : α → B} {l : List α} (hl : l.length ≤ 9223372036854775807) (h : ∀ a ∈ l, RT p e a) : RT (pList p) (eList e) l := by
 intro r
 unfold pList eList pBind
 rw [List.append_assoc, rt_num (n := l.length) (by unfold I64; omega)]
 simp only [Int.toNat_natCast]
 exact rt_rep h r
def Len {α : Type} (l : List α) : Prop := l.length ≤ 9223372036854775807
structure Cls.WF (c : Cls) : Prop where
 name : c.name.length ≤ 1048576
 super : I64 c.super
 init : I64 c.init
 array : I64 c.array
 elem : I64 c.elem
 refs : Len c.refs
 subs : Len c.subs ∧ ∀ n ∈ c.subs, I64 n
 slots : Len c.slots ∧ ∀ n ∈ c.slots, I64 n
 faces : Len c.faces ∧ ∀ p ∈ c.faces, I64 p.1 ∧ I64 p.2
def F64 (p : Four) : Prop := I64 p.1 ∧ I64 p.2.1 ∧ I64 p.2.2.1 ∧ I64 p.2.2.2
structure Mth.WF (m : Mth) : Prop where
 args : I64 m.args
 locals : I64 m.locals
 stack : I64 m.stack
 code : Len m.code ∧ ∀ p ∈ m.code, F64 p
 traps : Len m.traps ∧ ∀ p ∈ m.traps, F64 p
structure Image.WF (m : Image) : Prop where
 classes : Len m.classes ∧ ∀ c ∈ m.classes, c.WF
 methods : Len m.methods ∧ ∀ c ∈ m.methods, c.WF
 entry : I64 m.entry
 need : I64 m.need
 given : Len m.given ∧ ∀ n ∈ m.given, I64 n
 words : Len m.words ∧ ∀ n ∈ m.words, I32 n
 rel : Len m.rel ∧ ∀ n ∈ m.rel, I64 n
 stat : Len m.stat ∧ ∀ n ∈ m.stat, I32 n
 statref : Len m.statref
theorem pb {α β : Type} {p : Pa α} {e : α → B} {a : α} {f : α → Pa β} {x : B} {y : Option (β × B)} (h : RT p e a) (k : f a x = y) : pBind p f (e a ++ x) = y := by
 unfold pBind
 rw [h]
 exact k
theorem pm {α β : Type} {p : Pa α} {e : α → B} {a : α} {f : α → β} (h : RT p e a) (r : B) : pMap f p (e a ++ r) = some (f a, r) := by
 unfold pMap
 rw [h]
 rfl
theorem rt_pair {p : Int × Int} (h : I64 p.1 ∧ I64 p.2) : RT pPair ePair p := by
 intro r
 unfold pPair ePair
 rw [List.append_assoc]
 exact pb (rt_num h.1) (pm (rt_num h.2) r)
theorem rt_four {p : Four} (h : F64 p) : RT pFour eFour p := by
 intro r
 unfold pFour eFour
 simp only [List.append_assoc]
 exact pb (rt_num h.1) (pb (rt_num h.2.1) (pb (rt_num h.2.2.1) (pm (rt_num h.2.2.2) r)))
theorem rt_cls {c : Cls} (h : c.WF) : RT pCls eCls c := by
 intro r
 unfold pCls eCls
 simp only [List.append_assoc]
 exact pb (rt_text h.name) (pb (rt_num h.super) (pb (rt_num h.init) (pb (rt_num h.array) (pb (rt_num h.elem) (pb (rt_truth _) (pb (rt_list h.refs fun t _ => rt_truth t)
  (pb (rt_list h.subs.1 fun n hn => rt_num (h.subs.2 n hn)) (pb (rt_list h.slots.1 fun n hn => rt_num (h.slots.2 n hn)) (pm (rt_list h.faces.1 fun n hn => rt_pair (h.faces.2 n hn)) r)))))))))
theorem rt_mth {m : Mth} (h : m.WF) : RT pMth eMth m := by
 intro r
 unfold pMth eMth
 simp only [List.append_assoc]
 exact pb (rt_num h.args) (pb (rt_num h.locals) (pb (rt_num h.stack) (pb (rt_truth _) (pb (rt_list h.code.1 fun n hn => rt_four (h.code.2 n hn)) (pm (rt_list h.traps.1 fun n hn => rt_four (h.traps.2 n hn)) r)))))
theorem rt_image {m : Image} (h : m.WF) : RT pImage body m := by
 intro r
 unfold pImage body
 simp only [List.append_assoc]
 exact pb (rt_list h.classes.1 fun n hn => rt_cls (h.classes.2 n hn)) (pb (rt_list h.methods.1 fun n hn => rt_mth (h.methods.2 n hn)) (pb (rt_num h.entry) (pb (rt_num h.need)
  (pb (rt_list h.given.1 fun n hn => rt_num (h.given.2 n hn)) (pb (rt_list h.words.1 fun n hn => rt_word (h.words.2 n hn)) (pb (rt_list h.rel.1 fun n hn => rt_num (h.rel.2 n hn))
   (pb (rt_list h.stat.1 fun n hn => rt_word (h.stat.2 n hn)) (pm (rt_list h.statref fun t _ => rt_truth t) r))))))))
end Go.Img
end
section
namespace Go.Img
open Go.Abs
abbrev I (n : Int) : AV := .int .i64 n
def RPair : Heap → List AV → Int × Int → Prop := fun _ c p => c = [I p.1, I p.2]
def RFour : Heap → List AV → Four → Prop := fun _ c p => c = [I p.1, I p.2.1, I p.2.2.1, I p.2.2.2]
def RCls : Heap → List AV → Cls → Prop := fun h c x => ∃ vr vs vt vf, c = [.str x.name, I x.super, I x.init, vr, vs, vt, vf, I x.array, I x.elem, .bool x.thrown] ∧
 Sl RB 1 h vr x.refs ∧ Sl (RN .i64) 1 h vs x.subs ∧ Sl (RN .i64) 1 h vt x.slots ∧ Sl RPair 2 h vf x.faces
def RMth : Heap → List AV → Mth → Prop := fun h c m => ∃ vc vt, c = [I m.args, I m.locals, I m.stack, .bool m.gives, vc, vt] ∧ Sl RFour 4 h vc m.code ∧ Sl RFour 4 h vt m.traps
def RImg : Heap → List AV → Image → Prop := fun h c m => ∃ vc vm vg vw vr vs vf, c = [vc, vm, I m.entry, I m.need, vg, vw, vr, vs, vf] ∧
 Sl RCls 10 h vc m.classes ∧ Sl RMth 6 h vm m.methods ∧ Sl (RN .i64) 1 h vg m.given ∧ Sl (RN .i32) 1 h vw m.words ∧ Sl (RN .i64) 1 h vr m.rel ∧ Sl (RN .i32) 1 h vs m.stat ∧ Sl RB 1 h vf m.statref
theorem RPair.mono : Mono RPair := fun _ _ _ _ _ h => h
theorem RFour.mono : Mono RFour := fun _ _ _ _ _ h => h
theorem RCls.mono : Mono RCls := by
 rintro h h' c x e ⟨vr, vs, vt, vf, hc, h1, h2, h3, h4⟩
 exact ⟨vr, vs, vt, vf, hc, h1.mono RB.mono e, h2.mono RN.mono e, h3.mono RN.mono e, h4.mono RPair.mono e⟩
theorem RMth.mono : Mono RMth := by
 rintro h h' c x e ⟨vc, vt, hc, h1, h2⟩
 exact ⟨vc, vt, hc, h1.mono RFour.mono e, h2.mono RFour.mono e⟩
theorem RImg.mono : Mono RImg := by
 rintro h h' c x e ⟨vc, vm, vg, vw, vr, vs, vf, hc, h1, h2, h3, h4, h5, h6, h7⟩
 exact ⟨vc, vm, vg, vw, vr, vs, vf, hc, h1.mono RCls.mono e, h2.mono RMth.mono e, h3.mono RN.mono e, h4.mono RN.mono e, h5.mono RN.mono e, h6.mono RN.mono e, h7.mono RB.mono e⟩
theorem RPair.len {h : Heap} {c : List AV} {p : Int × Int} (H : RPair h c p) : c.length = 2 := by rw [H]; rfl
theorem RFour.len {h : Heap} {c : List AV} {p : Four} (H : RFour h c p) : c.length = 4 := by rw [H]; rfl
theorem RCls.len {h : Heap} {c : List AV} {p : Cls} (H : RCls h c p) : c.length = 10 := by obtain ⟨_, _, _, _, rfl, _⟩ := H; rfl
theorem RMth.len {h : Heap} {c : List AV} {p : Mth} (H : RMth h c p) : c.length = 6 := by obtain ⟨_, _, rfl, _⟩ := H; rfl
theorem RCls.one {h : Heap} {c : List AV} {p : Cls} (H : RCls h c p) : c.all AV.one = true := by
 obtain ⟨_, _, _, _, rfl, h1, h2, h3, h4⟩ := H
 simp only [List.all_cons, h1.one, h2.one, h3.one, h4.one]
 rfl
theorem RMth.one {h : Heap} {c : List AV} {p : Mth} (H : RMth h c p) : c.all AV.one = true := by
 obtain ⟨_, _, rfl, h1, h2⟩ := H
 simp only [List.all_cons, h1.one, h2.one]
 rfl
theorem RImg.one {h : Heap} {c : List AV} {p : Image} (H : RImg h c p) : c.all AV.one = true := by
 obtain ⟨_, _, _, _, _, _, _, rfl, h1, h2, h3, h4, h5, h6, h7⟩ := H
 simp only [List.all_cons, h1.one, h2.one, h3.one, h4.one, h5.one, h6.one, h7.one]
 rfl
end Go.Img
end
section
namespace Go.Img
open Go.Abs
structure Wr (hb : Heap) (w : Nat) (bs : B) (h : Heap) : Prop where
 ext : Ext hb h
 fresh : hb w = none
 st : ∃ v, h w = some (.cells [v]) ∧ ((v = .nil .sl ∧ bs = []) ∨ ∃ i, v = .sl i 0 bs.length 1 ∧ i ≠ w ∧ hb i = none ∧ h i = some (.cells (ubs bs)))
theorem Wr.start {hb : Heap} {w : Nat} (hw : hb w = none) : Wr hb w [] (upd hb w (some (.cells [.nil .sl]))) := ⟨.upd hw, hw, _, upd_same, .inl ⟨rfl, rfl⟩⟩
theorem Wr.own {hb h : Heap} {w : Nat} {bs : B} (H : Wr hb w bs h) : ∃ v, h w = some (.cells [v]) ∧ OSl (upd hb w (some (.cells [v]))) 1 v (ubs bs) bs.length h := by
 obtain ⟨v, h1, h2⟩ := H.st
 refine ⟨v, h1, fun id o e => ?_, ?_⟩
 ·unfold upd at e
  split at e
  ·rename_i hid
   rw [hid, h1, e]
  ·exact H.ext id o e
 ·rcases h2 with ⟨rfl, rfl⟩ | ⟨i, rfl, g1, g2, g3⟩
  ·exact .inl ⟨rfl, rfl, rfl⟩
  ·exact .inr ⟨i, rfl, by rw [upd_ne g1]; exact g2, g3, by simp [ubs]⟩
theorem Wr.put {hb h : Heap} {w : Nat} {bs : B} {v v' : AV} (hw : hb w = none) (H : OSl (upd hb w (some (.cells [v]))) 1 v' (ubs bs) bs.length h) : h w = some (.cells [v]) ∧ Wr hb w bs (upd h w (some (.cells [v']))) := by
 have hx : Ext hb (upd hb w (some (.cells [v]))) := .upd hw
 refine ⟨H.ext w _ upd_same, ?_, hw, v', upd_same, ?_⟩
 ·intro id o e
  rw [upd_ne (fun hid => by rw [hid, hw] at e; cases e)]
  exact H.ext id o (hx id o e)
 ·rcases H.own with ⟨rfl, h1, _⟩ | ⟨i, rfl, h1, h2, _⟩
  ·exact .inl ⟨rfl, by simpa [ubs] using h1⟩
  ·have hiw : i ≠ w := by
    rintro rfl
    rw [upd_same] at h1
    cases h1
   rw [upd_ne hiw] at h1
   exact .inr ⟨i, rfl, hiw, h1, by rw [upd_ne hiw]; exact h2⟩
theorem Wr.changed {hb h h' : Heap} {w : Nat} {bs e : B} (H : Wr hb w bs h) (H' : Wr hb w (bs ++ e) h') (he : e ≠ []) : h w ≠ none ∧ h' w ≠ h w := by
 obtain ⟨v, h1, h2⟩ := H.st
 obtain ⟨v', h1', h2'⟩ := H'.st
 have hpos := List.length_pos_iff.mpr he
 refine ⟨by rw [h1]; simp, ?_⟩
 rw [h1, h1']
 intro hv
 simp only [Option.some.injEq, AObj.cells.injEq, List.cons.injEq, and_true] at hv
 subst hv
 rcases h2' with ⟨rfl, h3⟩ | ⟨i, rfl, _⟩
 ·simp at h3
  exact he h3.2
 ·rcases h2 with ⟨h3, _⟩ | ⟨j, h3, _⟩
  ·cases h3
  ·simp only [AV.sl.injEq, List.length_append] at h3
   omega
theorem Wr.live {g h : Heap} {w : Nat} {bs : B} (H : Wr g w bs h) : h w ≠ none := by
 obtain ⟨v, h1, _⟩ := H.st
 rw [h1]
 simp
theorem Wr.box {g h : Heap} {w b : Nat} {bs : B} {o : AObj} (H : Wr g w bs h) (hb : h b = none) : Wr (upd g b (some o)) w bs (upd h b (some o)) := by
 have hw : w ≠ b := fun e => H.live (by rw [e, hb])
 refine ⟨fun id o' e => ?_, by rw [upd_ne hw]; exact H.fresh, ?_⟩
 ·unfold upd at e ⊢
  split
  ·rename_i hid
   rw [if_pos hid] at e
   exact e
  ·rename_i hid
   rw [if_neg hid] at e
   exact H.ext id o' e
 ·obtain ⟨v, h1, h2⟩ := H.st
  refine ⟨v, by rw [upd_ne hw]; exact h1, ?_⟩
  rcases h2 with h2 | ⟨i, e, g1, g2, g3⟩
  ·exact .inl h2
  ·have hib : i ≠ b := fun e => by rw [e, hb] at g3; cases g3
   exact .inr ⟨i, e, g1, by rw [upd_ne hib]; exact g2, by rw [upd_ne hib]; exact g3⟩
theorem Wr.kill {g g' h : Heap} {w : Nat} {bs : B} {bx : List Nat} (H : Wr g' w bs h) (hx : Ext g g') (hb : ∀ b ∈ bx, g' b ≠ none ∧ g b = none) : Wr g w bs (killL bx h) := by
 have out : ∀ id, g' id = none → killL bx h id = h id := fun id hid => by
  unfold killL
  rw [if_neg]
  intro hc
  exact (hb id (by simpa using hc)).1 hid
 have none' : ∀ id, g' id = none → g id = none := fun id hid => by
  cases e : g id with
  | none => rfl
  | some o => rw [hx id o e] at hid; cases hid
 refine ⟨(hx.trans H.ext).kill fun i hi => (hb i hi).2, none' w H.fresh, ?_⟩
 obtain ⟨v, h1, h2⟩ := H.st
 refine ⟨v, by rw [out w H.fresh]; exact h1, ?_⟩
 rcases h2 with h2 | ⟨i, e, g1, g2, g3⟩
 ·exact .inl h2
 ·exact .inr ⟨i, e, g1, none' i g2, by rw [out i g2]; exact g3⟩
theorem Wr.base {g g' h : Heap} {w : Nat} {bs : B} (H : Wr g' w bs h) (hx : Ext g g') : Wr g w bs h := by
 have := H.kill (bx := []) hx (by simp)
 rwa [killL_nil] at this
def Writes (P : Program) (A : Ann) (f : Nat) (vs : List AV) (w : Nat) (e : B) (g : Heap) : Prop := ∀ bs h, Wr g w bs h → (bs ++ e).length ≤ 1099511627776 → HCallC P A f vs h fun v h' => v = .tup [] ∧ Wr g w (bs ++ e) h'
theorem put_ne (n : Int) : put n ≠ [] := by
 have := leb_pos (zz n)
 intro h
 unfold put at h
 rw [h] at this
 simp at this
end Go.Img
end
section
namespace Go.Img
def poly : Nat := 0xedb88320
def TN (s : Nat) : Nat := (s / 2) ^^^ (if s % 2 = 1 then poly else 0)
def TI : Nat → Nat → Nat
 | 0, s => s
 | k + 1, s => TI k (TN s)
theorem TI_add : ∀ (j k s : Nat), TI (j + k) s = TI k (TI j s)
 | 0, k, s => by simp [TI]
 | j + 1, k, s => by
  have : j + 1 + k = (j + k) + 1 := by omega
  rw [this]
  exact TI_add j k (TN s)
theorem TN_lt {s : Nat} (h : s < 2 ^ 32) : TN s < 2 ^ 32 := by
 unfold TN
 refine Nat.xor_lt_two_pow (by omega) ?_
 split <;> decide
theorem TI_lt : ∀ {k s : Nat}, s < 2 ^ 32 → TI k s < 2 ^ 32
 | 0, _, h => h
 | k + 1, _, h => TI_lt (k := k) (TN_lt h)
def RS (s : Nat) (bs : B) : Nat := bs.foldl (fun s c => TI 8 (s ^^^ c.toNat)) s
def crc (bs : B) : Nat := RS 4294967295 bs ^^^ 4294967295
theorem RS_append (s : Nat) (a b : B) : RS s (a ++ b) = RS (RS s a) b := by
 unfold RS
 rw [List.foldl_append]
theorem RS_lt : ∀ {bs : B} {s : Nat}, s < 2 ^ 32 → RS s bs < 2 ^ 32
 | [], _, h => h
 | c :: bs, s, h => RS_lt (bs := bs) (TI_lt (Nat.xor_lt_two_pow h (Nat.lt_of_lt_of_le c.toNat_lt (by decide))))
theorem crc_lt (bs : B) : crc bs < 2 ^ 32 := Nat.xor_lt_two_pow (RS_lt (by decide)) (by decide)
def four (n : Nat) : B := [UInt8.ofNat (n / 16777216), UInt8.ofNat (n / 65536), UInt8.ofNat (n / 256), UInt8.ofNat n]
theorem four_len (n : Nat) : (four n).length = 4 := rfl
def sealed (x : B) : B := x ++ (four (crc x)).reverse
def head : B := [68, 65, 71, 85]
def front (m : Image) : B := head ++ (four (4 + 4 + (body m).length + 4) ++ body m)
def encode (m : Image) : B := sealed (front m)
def size (m : Image) : Nat := 12 + (body m).length
theorem front_len (m : Image) : (front m).length = 8 + (body m).length := by
 simp only [front, head, List.length_append, four_len, List.length_cons, List.length_nil]
 omega
theorem encode_len (m : Image) : (encode m).length = size m := by
 simp only [encode, sealed, List.length_append, List.length_reverse, four_len, front_len, size]
 omega
def inner (b : B) : B := (b.take (b.length - 4)).drop 8
theorem inner_encode (m : Image) : inner (encode m) = body m := by
 unfold inner
 rw [encode_len]
 have : (encode m).take (size m - 4) = front m := by
  unfold encode sealed
  rw [List.take_append_of_le_length (by rw [front_len]; unfold size; omega)]
  exact List.take_of_length_le (by rw [front_len]; unfold size; omega)
 rw [this]
 rfl
def decode (b : B) : Option Image := if b.length < 12 ∨ 1048576 < b.length then none else match pImage (inner b) with
 | some (m, _) => if size m ≤ 1048576 ∧ encode m = b then some m else none
 | none => none
theorem decode_encode {m : Image} (h : m.WF) (hs : size m ≤ 1048576) : decode (encode m) = some m := by
 unfold decode
 rw [if_neg (by rw [encode_len]; unfold size at *; omega), inner_encode]
 have := rt_image h []
 rw [List.append_nil] at this
 rw [this]
 simp [hs]
end Go.Img
end
