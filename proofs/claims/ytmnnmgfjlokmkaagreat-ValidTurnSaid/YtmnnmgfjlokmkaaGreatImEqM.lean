import Derived.Test.YtmnnmgfjlokmkaaGreatAbsTac
import Derived.Test.YtmnnmgfjlokmkaaGreatImDecode
import Derived.Test.YtmnnmgfjlokmkaaGreatAbsRegY
section
open Go Go.Abs Go.Proofs.SlimCode Go.Img
set_option maxRecDepth 100000
namespace Go.Proofs
theorem eqC_int {a b : Int} : eqC 0 (I a) (I b) = some (decide (a = b)) := rfl
theorem eqs_pair {E : Lk} {x y : SX} {p q : Int × Int} (hx : ev E x = some (.agg [I p.1, I p.2])) (hy : ev E y = some (.agg [I q.1, I q.2])) : sv E (.eqs true [(0, 0), (1, 0)] x y) = some (True, .bool (!decide (p = q))) := by
 obtain ⟨a, b⟩ := p
 obtain ⟨c, d⟩ := q
 simp only [sv, hx, hy]
 simp only [eqCells, scal, List.all_cons, List.all_nil, Bool.and_self, if_true, List.getElem?_cons_zero, List.getElem?_cons_succ, eqC_int, Prod.mk.injEq]
 by_cases h1 : a = c <;> by_cases h2 : b = d <;> simp [h1, h2]
theorem eqs_four {E : Lk} {x y : SX} {p q : Four} (hx : ev E x = some (.agg [I p.1, I p.2.1, I p.2.2.1, I p.2.2.2])) (hy : ev E y = some (.agg [I q.1, I q.2.1, I q.2.2.1, I q.2.2.2])) : sv E (.eqs true [(0, 0), (1, 0), (2, 0), (3, 0)] x y) = some (True, .bool (!decide (p = q))) := by
 obtain ⟨a, b, c, d⟩ := p
 obtain ⟨a', b', c', d'⟩ := q
 simp only [sv, hx, hy]
 simp only [eqCells, scal, List.all_cons, List.all_nil, Bool.and_self, if_true, List.getElem?_cons_zero, List.getElem?_cons_succ, eqC_int, Prod.mk.injEq]
 by_cases h1 : a = a' <;> by_cases h2 : b = b' <;> by_cases h3 : c = c' <;> by_cases h4 : d = d' <;> simp [h1, h2, h3, h4]
def SQ (s : Nat) (n : Option Nat) (op : SX → SX → SK) : SC := (.seq (.reg [] [⟨some 4, none, .mv (.c (.bool false))⟩])
 (.seq (.seq (.reg [] [⟨some 6, none, .mv (.r 0)⟩, ⟨some 7, none, .len (.r 6) none⟩, ⟨some 8, none, .mv (.r 1)⟩, ⟨some 9, none, .len (.r 8) none⟩, ⟨some 10, none, .bin .neq (.r 7) (.r 9)⟩])
 (.cond (.r 10) (.seq (.reg [] [⟨some 4, none, .mv (.c (.bool false))⟩]) .ret) .skip))
 (.seq (.seq (.reg [] [⟨some 11, none, .mv (.r 0)⟩, ⟨some 12, none, .len (.r 11) none⟩, ⟨some 13, none, .mv (.c (.int .i64 0))⟩])
 (.block 0 (.loop (.seq (.reg [] [⟨some 14, none, .bin .lss (.r 13) (.r 12)⟩])
  (.seq (.cond (.r 14) .skip (.exit 0))
  (.seq (.block 1 (.seq (.reg [] [⟨some 15, none, .mv (.r 13)⟩, ⟨some 5, none, .mv (.r 15)⟩])
   (.seq (.reg [(3, 7)] [⟨some 16, none, .mv (.r 0)⟩, ⟨some 17, none, .mv (.r 5)⟩, ⟨some 18, none, .ia (.r 16) (.r 17) none s⟩, ⟨some 19, none, .ld (.r 18) n⟩, ⟨some 20, none, .mv (.r 1)⟩, ⟨some 21, none, .mv (.r 5)⟩,
    ⟨some 22, none, .ia (.r 20) (.r 21) none s⟩, ⟨some 23, none, .ld (.r 22) n⟩, ⟨some 24, none, op (.r 19) (.r 23)⟩])
   (.cond (.r 24) (.seq (.reg [] [⟨some 4, none, .mv (.c (.bool false))⟩]) .ret) .skip))))
  (.reg [] [⟨some 25, none, .bin .add (.r 13) (.c (.int .i64 1))⟩, ⟨some 13, none, .mv (.r 25)⟩])))))))
 (.seq (.reg [] [⟨some 4, none, .mv (.c (.bool true))⟩]) .ret))))
def SE (s : Nat) (n : Option Nat) (op : SX → SX → SK) : SC := (.seq (.reg [] [⟨some 4, none, .mv (.c (.bool false))⟩])
 (.seq (.seq (.reg [] [⟨some 6, none, .mv (.r 0)⟩, ⟨some 7, none, .len (.r 6) none⟩, ⟨some 8, none, .mv (.r 1)⟩, ⟨some 9, none, .len (.r 8) none⟩, ⟨some 10, none, .bin .neq (.r 7) (.r 9)⟩])
 (.cond (.r 10) (.seq (.reg [] [⟨some 4, none, .mv (.c (.bool false))⟩]) .ret) .skip))
 (.seq (.seq (.reg [] [⟨some 5, none, .mv (.c (.int .i64 0))⟩])
 (.block 0 (.loop (.seq (.seq (.reg [] [⟨some 11, none, .mv (.r 5)⟩, ⟨some 12, none, .mv (.r 0)⟩, ⟨some 13, none, .len (.r 12) none⟩, ⟨some 14, none, .bin .lss (.r 11) (.r 13)⟩])
  (.cond (.r 14) .skip (.exit 0)))
  (.seq (.block 1 (.seq (.reg [(3, 7)] [⟨some 17, none, .mv (.r 0)⟩, ⟨some 18, none, .mv (.r 5)⟩, ⟨some 19, none, .ia (.r 17) (.r 18) none s⟩, ⟨some 20, none, .ld (.r 19) n⟩, ⟨some 21, none, .mv (.r 1)⟩, ⟨some 22, none, .mv (.r 5)⟩,
    ⟨some 23, none, .ia (.r 21) (.r 22) none s⟩, ⟨some 24, none, .ld (.r 23) n⟩, ⟨some 25, none, op (.r 20) (.r 24)⟩])
   (.cond (.r 25) (.seq (.reg [] [⟨some 4, none, .mv (.c (.bool false))⟩]) .ret) .skip)))
  (.reg [] [⟨some 15, none, .mv (.r 5)⟩, ⟨some 16, none, .bin .add (.r 15) (.c (.int .i64 1))⟩, ⟨some 5, none, .mv (.r 16)⟩]))))))
 (.seq (.reg [] [⟨some 4, none, .mv (.c (.bool true))⟩]) .ret))))
theorem sq_of {α : Type} [DecidableEq α] {f s : Nat} {n : Option Nat} {op : SX → SX → SK} {R : Heap → List AV → α → Prop} {fn : Func} {h : Heap} {v1 v2 : AV} {a b : List α}
  (hp0 : ann.pure f = false) (hf : Tryz.prog.funcs[f]? = some fn) (hb : fn.body.bind (slC Tryz.prog ann f) = some (SQ s n op)) (hn : (fn.name == "runtime.NumGoroutine" || decide (fn.ntmps < 2)) = false) (hnt : fn.ntmps = 26) (hres : fn.results.toList = [.tmp 4])
  (val : α → AV) (hR : ∀ h c x, R h c x → LdV n c (val x)) (hop : ∀ (E : Lk) (x y : SX) (p q : α), ev E x = some (val p) → ev E y = some (val q) → sv E (op x y) = some (True, .bool (!decide (p = q))))
  (h1 : Sl R s h v1 a) (h2 : Sl R s h v2 b) (_l1 : a.length ≤ 9223372036854775807) (l2 : b.length ≤ 9223372036854775807) : Looks Tryz.prog ann f [v1, v2] h (.bool (decide (a = b))) := by
 refine s_look_of (by rw [hp0]; rfl) hf hb hn ?_
 rw [hnt, hres]
 unfold SQ
 have no : ∀ (E : Env), lk E 4 = some (.bool false) → a ≠ b → lret Tryz.prog ann f [.tmp 4] h (.bool (decide (a = b))) .ret E [] h := fun E e hne => lret_ret (vs := [.bool false]) (by simp only [resE, e]) rfl (by rw [decide_eq_false hne]; rfl) .refl (by simp)
 refine tV ?_
 apply o_lenS rfl rfl h1
 refine tV ?_
 apply o_lenS rfl rfl h2
 refine oB fun b1 hb1 => ?_
 by_cases hl : a.length = b.length
 rotate_left
 ·have e1 : b1 = true := by rw [hb1]; simp; omega
  subst e1
  refine tW ?_
  exact no _ rfl (fun e => hl (by rw [e]))
 have e1 : b1 = false := by rw [hb1]; simp; omega
 subst e1
 refine tV ?_
 apply o_lenS rfl rfl h1
 refine tV ?_
 refine s_loop (fun k : Nat => [(0, v1), (1, v2), (12, .int .i64 (a.length : Int)), (13, .int .i64 (k : Int))]) (fun k h' => h' = h ∧ k ≤ a.length ∧ a.take k = b.take k) (fun k => a.length - k) 0
  tU ⟨rfl, Nat.zero_le _, by simp⟩ ?_
 rintro k h' ⟨rfl, hk, ht⟩
 refine tW ?_
 refine oB fun b2 hb2 => ?_
 cases b2
 case false =>
  have hkl : k = a.length := by simp at hb2; omega
  have e : a = b := by
   rw [hkl, List.take_length] at ht
   rw [ht, hl, List.take_length]
  refine tW ?_
  exact lret_ret (vs := [.bool true]) rfl rfl (by rw [decide_eq_true e]; rfl) .refl (by simp)
 have hkl : k < a.length := by simpa using hb2
 refine tV ?_
 apply o_iaS rfl rfl rfl h1 hkl
 intro p1 c1 hp1 hc1 _
 apply o_ldG rfl rfl hp1 (hR _ _ _ hc1) (fun _ => .refl)
 refine tV ?_
 apply o_iaS rfl rfl rfl h2 (by omega)
 intro p2 c2 hp2 hc2 _
 apply o_ldG rfl rfl hp2 (hR _ _ _ hc2) (fun _ => .refl)
 apply o_val rfl (hop _ _ _ _ _ rfl rfl) trivial
 by_cases he : a[k] = b[k]
 rotate_left
 ·rw [decide_eq_false he]
  refine tW ?_
  exact no _ rfl (fun e => he (by subst e; rfl))
 rw [decide_eq_true he]
 refine tW ?_
 rw [w64 (n := (k : Int) + 1) (by omega) (by omega)]
 refine ⟨k + 1, by simp only; omega, tU, rfl, rfl, by omega, ?_⟩
 rw [List.take_add_one, List.take_add_one, ht, List.getElem?_eq_getElem hkl, List.getElem?_eq_getElem (by omega), he]
theorem se_of {α : Type} [DecidableEq α] {f s : Nat} {n : Option Nat} {op : SX → SX → SK} {R : Heap → List AV → α → Prop} {fn : Func} {h : Heap} {v1 v2 : AV} {a b : List α}
  (hp0 : ann.pure f = false) (hf : Tryz.prog.funcs[f]? = some fn) (hb : fn.body.bind (slC Tryz.prog ann f) = some (SE s n op)) (hn : (fn.name == "runtime.NumGoroutine" || decide (fn.ntmps < 2)) = false) (hnt : fn.ntmps = 26) (hres : fn.results.toList = [.tmp 4])
  (val : α → AV) (hR : ∀ h c x, R h c x → LdV n c (val x)) (hop : ∀ (E : Lk) (x y : SX) (p q : α), ev E x = some (val p) → ev E y = some (val q) → sv E (op x y) = some (True, .bool (!decide (p = q))))
  (h1 : Sl R s h v1 a) (h2 : Sl R s h v2 b) (_l1 : a.length ≤ 9223372036854775807) (l2 : b.length ≤ 9223372036854775807) : Looks Tryz.prog ann f [v1, v2] h (.bool (decide (a = b))) := by
 refine s_look_of (by rw [hp0]; rfl) hf hb hn ?_
 rw [hnt, hres]
 unfold SE
 have no : ∀ (E : Env), lk E 4 = some (.bool false) → a ≠ b → lret Tryz.prog ann f [.tmp 4] h (.bool (decide (a = b))) .ret E [] h := fun E e hne => lret_ret (vs := [.bool false]) (by simp only [resE, e]) rfl (by rw [decide_eq_false hne]; rfl) .refl (by simp)
 refine tV ?_
 apply o_lenS rfl rfl h1
 refine tV ?_
 apply o_lenS rfl rfl h2
 refine oB fun b1 hb1 => ?_
 by_cases hl : a.length = b.length
 rotate_left
 ·have e1 : b1 = true := by rw [hb1]; simp; omega
  subst e1
  refine tW ?_
  exact no _ rfl (fun e => hl (by rw [e]))
 have e1 : b1 = false := by rw [hb1]; simp; omega
 subst e1
 refine tV ?_
 refine s_loop (fun k : Nat => [(0, v1), (1, v2), (5, .int .i64 (k : Int))]) (fun k h' => h' = h ∧ k ≤ a.length ∧ a.take k = b.take k) (fun k => a.length - k) 0
  tU ⟨rfl, Nat.zero_le _, by simp⟩ ?_
 rintro k h' ⟨rfl, hk, ht⟩
 refine tV ?_
 apply o_lenS rfl rfl h1
 refine oB fun b2 hb2 => ?_
 cases b2
 case false =>
  have hkl : k = a.length := by simp at hb2; omega
  have e : a = b := by
   rw [hkl, List.take_length] at ht
   rw [ht, hl, List.take_length]
  refine tW ?_
  exact lret_ret (vs := [.bool true]) rfl rfl (by rw [decide_eq_true e]; rfl) .refl (by simp)
 have hkl : k < a.length := by simpa using hb2
 refine tV ?_
 apply o_iaS rfl rfl rfl h1 hkl
 intro p1 c1 hp1 hc1 _
 apply o_ldG rfl rfl hp1 (hR _ _ _ hc1) (fun _ => .refl)
 refine tV ?_
 apply o_iaS rfl rfl rfl h2 (by omega)
 intro p2 c2 hp2 hc2 _
 apply o_ldG rfl rfl hp2 (hR _ _ _ hc2) (fun _ => .refl)
 apply o_val rfl (hop _ _ _ _ _ rfl rfl) trivial
 by_cases he : a[k] = b[k]
 rotate_left
 ·rw [decide_eq_false he]
  refine tW ?_
  exact no _ rfl (fun e => he (by subst e; rfl))
 rw [decide_eq_true he]
 refine tW ?_
 rw [w64 (n := (k : Int) + 1) (by omega) (by omega)]
 refine ⟨k + 1, by simp only; omega, tU, rfl, rfl, by omega, ?_⟩
 rw [List.take_add_one, List.take_add_one, ht, List.getElem?_eq_getElem hkl, List.getElem?_eq_getElem (by omega), he]
theorem p71 {h : Heap} {v1 v2 : AV} {a b : List Int} (h1 : Sl (RN .i32) 1 h v1 a) (h2 : Sl (RN .i32) 1 h v2 b) (l1 : Len a) (l2 : Len b) : Looks Tryz.prog ann 71 [v1, v2] h (.bool (decide (a = b))) :=
 sq_of rfl Tryz.func71 (frc (by with_unfolding_all rfl)) rfl rfl rfl (fun x => .int .i32 x) (fun _ _ _ h => .one h) (fun E x y p q hx hy => by simp only [sv, hx, hy, bin2]; rfl) h1 h2 l1 l2
theorem p72 {h : Heap} {v1 v2 : AV} {a b : List Int} (h1 : Sl (RN .i64) 1 h v1 a) (h2 : Sl (RN .i64) 1 h v2 b) (l1 : Len a) (l2 : Len b) : Looks Tryz.prog ann 72 [v1, v2] h (.bool (decide (a = b))) :=
 sq_of rfl Tryz.func72 (frc (by with_unfolding_all rfl)) rfl rfl rfl (fun x => .int .i64 x) (fun _ _ _ h => .one h) (fun E x y p q hx hy => by simp only [sv, hx, hy, bin2]; rfl) h1 h2 l1 l2
theorem p73 {h : Heap} {v1 v2 : AV} {a b : List Bool} (h1 : Sl RB 1 h v1 a) (h2 : Sl RB 1 h v2 b) (l1 : Len a) (l2 : Len b) : Looks Tryz.prog ann 73 [v1, v2] h (.bool (decide (a = b))) :=
 sq_of rfl Tryz.func73 (frc (by with_unfolding_all rfl)) rfl rfl rfl (fun x => .bool x) (fun _ _ _ h => .one h) (fun E x y p q hx hy => by simp only [sv, hx, hy]; cases p <;> cases q <;> rfl) h1 h2 l1 l2
theorem p112 {h : Heap} {v1 v2 : AV} {a b : List (Int × Int)} (h1 : Sl RPair 2 h v1 a) (h2 : Sl RPair 2 h v2 b) (l1 : Len a) (l2 : Len b) : Looks Tryz.prog ann 112 [v1, v2] h (.bool (decide (a = b))) :=
 sq_of rfl Tryz.func112 (frc (by with_unfolding_all rfl)) rfl rfl rfl (fun p => .agg [I p.1, I p.2]) (fun _ _ _ h => .many h rfl) (fun E x y p q hx hy => eqs_pair hx hy) h1 h2 l1 l2
theorem p113 {h : Heap} {v1 v2 : AV} {a b : List Four} (h1 : Sl RFour 4 h v1 a) (h2 : Sl RFour 4 h v2 b) (l1 : Len a) (l2 : Len b) : Looks Tryz.prog ann 113 [v1, v2] h (.bool (decide (a = b))) :=
 sq_of rfl Tryz.func113 (frc (by with_unfolding_all rfl)) rfl rfl rfl (fun p => .agg [I p.1, I p.2.1, I p.2.2.1, I p.2.2.2]) (fun _ _ _ h => .many h rfl) (fun E x y p q hx hy => eqs_four hx hy) h1 h2 l1 l2
theorem p114 {h : Heap} {v1 v2 : AV} {a b : List Four} (h1 : Sl RFour 4 h v1 a) (h2 : Sl RFour 4 h v2 b) (l1 : Len a) (l2 : Len b) : Looks Tryz.prog ann 114 [v1, v2] h (.bool (decide (a = b))) :=
 sq_of rfl Tryz.func114 (frc (by with_unfolding_all rfl)) rfl rfl rfl (fun p => .agg [I p.1, I p.2.1, I p.2.2.1, I p.2.2.2]) (fun _ _ _ h => .many h rfl) (fun E x y p q hx hy => eqs_four hx hy) h1 h2 l1 l2
theorem p62 {h : Heap} {v1 v2 : AV} {a b : List Int} (h1 : Sl (RN .i64) 1 h v1 a) (h2 : Sl (RN .i64) 1 h v2 b) (l1 : Len a) (l2 : Len b) : Looks Tryz.prog ann 62 [v1, v2] h (.bool (decide (a = b))) :=
 se_of rfl Tryz.func62 (frc (by with_unfolding_all rfl)) rfl rfl rfl (fun x => .int .i64 x) (fun _ _ _ h => .one h) (fun E x y p q hx hy => by simp only [sv, hx, hy, bin2]; rfl) h1 h2 l1 l2
theorem p63 {h : Heap} {v1 v2 : AV} {a b : List Int} (h1 : Sl (RN .i32) 1 h v1 a) (h2 : Sl (RN .i32) 1 h v2 b) (l1 : Len a) (l2 : Len b) : Looks Tryz.prog ann 63 [v1, v2] h (.bool (decide (a = b))) :=
 se_of rfl Tryz.func63 (frc (by with_unfolding_all rfl)) rfl rfl rfl (fun x => .int .i32 x) (fun _ _ _ h => .one h) (fun E x y p q hx hy => by simp only [sv, hx, hy, bin2]; rfl) h1 h2 l1 l2
theorem p64 {h : Heap} {v1 v2 : AV} {a b : List Bool} (h1 : Sl RB 1 h v1 a) (h2 : Sl RB 1 h v2 b) (l1 : Len a) (l2 : Len b) : Looks Tryz.prog ann 64 [v1, v2] h (.bool (decide (a = b))) :=
 se_of rfl Tryz.func64 (frc (by with_unfolding_all rfl)) rfl rfl rfl (fun x => .bool x) (fun _ _ _ h => .one h) (fun E x y p q hx hy => by simp only [sv, hx, hy]; cases p <;> cases q <;> rfl) h1 h2 l1 l2
end Go.Proofs
end
section
open Go Go.Abs Go.Proofs.SlimCode Go.Img
set_option maxRecDepth 100000
namespace Go.Proofs
theorem no_eq {α : Type} [DecidableEq α] {f : Nat} {x y : α} {E : Env} {h h' : Heap} {bx : List Nat} (hE : lk E 4 = some (.bool false)) (hne : x ≠ y) (hx : Ext h h') (hb : ∀ b ∈ bx, h b = none) : lret Tryz.prog ann f [.tmp 4] h (.bool (decide (x = y))) .ret E bx h' := lret_ret (vs := [.bool false]) (by simp only [resE, hE]) rfl (by rw [decide_eq_false hne]; rfl) hx hb
theorem yes_eq {α : Type} [DecidableEq α] {f : Nat} {x y : α} {E : Env} {h h' : Heap} {bx : List Nat} (hE : lk E 4 = some (.bool true)) (hne : x = y) (hx : Ext h h') (hb : ∀ b ∈ bx, h b = none) : lret Tryz.prog ann f [.tmp 4] h (.bool (decide (x = y))) .ret E bx h' := lret_ret (vs := [.bool true]) (by simp only [resE, hE]) rfl (by rw [decide_eq_true hne]; rfl) hx hb
theorem cls_ext {x y : Cls} (h0 : x.name = y.name) (h1 : x.super = y.super) (h2 : x.init = y.init) (h3 : x.array = y.array) (h4 : x.elem = y.elem) (h5 : x.thrown = y.thrown) (h6 : x.refs = y.refs) (h7 : x.subs = y.subs) (h8 : x.slots = y.slots) (h9 : x.faces = y.faces) : x = y := by
 cases x
 cases y
 simp only at h0 h1 h2 h3 h4 h5 h6 h7 h8 h9
 subst h0 h1 h2 h3 h4 h5 h6 h7 h8 h9
 rfl
theorem mth_ext {x y : Mth} (h0 : x.args = y.args) (h1 : x.locals = y.locals) (h2 : x.stack = y.stack) (h3 : x.gives = y.gives) (h4 : x.code = y.code) (h5 : x.traps = y.traps) : x = y := by
 cases x
 cases y
 simp only at h0 h1 h2 h3 h4 h5
 subst h0 h1 h2 h3 h4 h5
 rfl
theorem img_ext {x y : Image} (h0 : x.classes = y.classes) (h1 : x.methods = y.methods) (h2 : x.entry = y.entry) (h3 : x.need = y.need) (h4 : x.given = y.given) (h5 : x.words = y.words) (h6 : x.rel = y.rel) (h7 : x.stat = y.stat) (h8 : x.statref = y.statref) : x = y := by
 cases x
 cases y
 simp only at h0 h1 h2 h3 h4 h5 h6 h7 h8
 subst h0 h1 h2 h3 h4 h5 h6 h7 h8
 rfl
theorem p68 {h : Heap} {c d : List AV} {x y : Cls} (hc : RCls h c x) (hd : RCls h d y) (wx : x.WF) (wy : y.WF) : Looks Tryz.prog ann 68 [.agg c, .agg d] h (.bool (decide (x = y))) := by
 have hone := hc.one
 have hone2 := hd.one
 obtain ⟨vr, vs, vt, vf, rfl, r1, r2, r3, r4⟩ := hc
 obtain ⟨vr', vs', vt', vf', rfl, q1, q2, q3, q4⟩ := hd
 refine s_look_of rfl Tryz.func68 (frc (by with_unfolding_all rfl)) rfl ?_
 refine tS ?_
 apply o_val rfl rfl hone
 apply o_val rfl rfl hone2
 have hx0 : Ext h h := .refl
 refine tV ?_
 refine oB fun b hb => ?_
 by_cases H0 : x.name = y.name
 rotate_left
 ·have e : b = false := by rw [hb]; simp [H0]
  subst e
  refine tW ?_
  exact no_eq rfl (fun e => H0 (congrArg Cls.name e)) hx0 (by simp)
 have e : b = true := by rw [hb]; simp [H0]
 subst e
 refine tV ?_
 refine oB fun b hb => ?_
 by_cases H1 : x.super = y.super
 rotate_left
 ·have e : b = false := by rw [hb]; simp [H1]
  subst e
  refine tW ?_
  exact no_eq rfl (fun e => H1 (congrArg Cls.super e)) hx0 (by simp)
 have e : b = true := by rw [hb]; simp [H1]
 subst e
 refine tV ?_
 refine oB fun b hb => ?_
 by_cases H2 : x.init = y.init
 rotate_left
 ·have e : b = false := by rw [hb]; simp [H2]
  subst e
  refine tW ?_
  exact no_eq rfl (fun e => H2 (congrArg Cls.init e)) hx0 (by simp)
 have e : b = true := by rw [hb]; simp [H2]
 subst e
 refine tV ?_
 refine oB fun b hb => ?_
 by_cases H3 : x.array = y.array
 rotate_left
 ·have e : b = false := by rw [hb]; simp [H3]
  subst e
  refine tW ?_
  exact no_eq rfl (fun e => H3 (congrArg Cls.array e)) hx0 (by simp)
 have e : b = true := by rw [hb]; simp [H3]
 subst e
 refine tV ?_
 refine oB fun b hb => ?_
 by_cases H4 : x.elem = y.elem
 rotate_left
 ·have e : b = false := by rw [hb]; simp [H4]
  subst e
  refine tW ?_
  exact no_eq rfl (fun e => H4 (congrArg Cls.elem e)) hx0 (by simp)
 have e : b = true := by rw [hb]; simp [H4]
 subst e
 refine tV ?_
 refine oB fun b hb => ?_
 by_cases H5 : x.thrown = y.thrown
 rotate_left
 ·have e : b = false := by rw [hb]; simp [H5]
  subst e
  refine tW ?_
  exact no_eq rfl (fun e => H5 (congrArg Cls.thrown e)) hx0 (by simp)
 have e : b = true := by rw [hb]; simp [H5]
 subst e
 refine tV ?_
 apply o_hcall rfl rfl rfl rfl (p73 (r1.mono RB.mono hx0) (q1.mono RB.mono hx0) wx.refs wy.refs).go
 rintro _ k1 ⟨rfl, hy1⟩
 have hx1 := hx0.trans hy1
 clear hy1
 by_cases H6 : x.refs = y.refs
 rotate_left
 ·rw [decide_eq_false H6]
  refine tW ?_
  exact no_eq rfl (fun e => H6 (congrArg Cls.refs e)) hx1 (by simp)
 rw [decide_eq_true H6]
 refine tV ?_
 apply o_hcall rfl rfl rfl rfl (p72 (r2.mono RN.mono hx1) (q2.mono RN.mono hx1) wx.subs.1 wy.subs.1).go
 rintro _ k2 ⟨rfl, hy2⟩
 have hx2 := hx1.trans hy2
 clear hy2
 by_cases H7 : x.subs = y.subs
 rotate_left
 ·rw [decide_eq_false H7]
  refine tW ?_
  exact no_eq rfl (fun e => H7 (congrArg Cls.subs e)) hx2 (by simp)
 rw [decide_eq_true H7]
 refine tV ?_
 apply o_hcall rfl rfl rfl rfl (p72 (r3.mono RN.mono hx2) (q3.mono RN.mono hx2) wx.slots.1 wy.slots.1).go
 rintro _ k3 ⟨rfl, hy3⟩
 have hx3 := hx2.trans hy3
 clear hy3
 by_cases H8 : x.slots = y.slots
 rotate_left
 ·rw [decide_eq_false H8]
  refine tW ?_
  exact no_eq rfl (fun e => H8 (congrArg Cls.slots e)) hx3 (by simp)
 rw [decide_eq_true H8]
 refine tV ?_
 apply o_hcall rfl rfl rfl rfl (p112 (r4.mono RPair.mono hx3) (q4.mono RPair.mono hx3) wx.faces.1 wy.faces.1).go
 rintro _ k4 ⟨rfl, hy4⟩
 have hx4 := hx3.trans hy4
 clear hy4
 by_cases H9 : x.faces = y.faces
 rotate_left
 ·rw [decide_eq_false H9]
  refine tW ?_
  exact no_eq rfl (fun e => H9 (congrArg Cls.faces e)) hx4 (by simp)
 rw [decide_eq_true H9]
 refine tW ?_
 exact yes_eq rfl (cls_ext H0 H1 H2 H3 H4 H5 H6 H7 H8 H9) hx4 (by simp)
theorem p70 {h : Heap} {c d : List AV} {x y : Mth} (hc : RMth h c x) (hd : RMth h d y) (wx : x.WF) (wy : y.WF) : Looks Tryz.prog ann 70 [.agg c, .agg d] h (.bool (decide (x = y))) := by
 have hone := hc.one
 have hone2 := hd.one
 obtain ⟨vr, vs, rfl, r1, r2⟩ := hc
 obtain ⟨vr', vs', rfl, q1, q2⟩ := hd
 refine s_look_of rfl Tryz.func70 (frc (by with_unfolding_all rfl)) rfl ?_
 refine tS ?_
 apply o_val rfl rfl hone
 apply o_val rfl rfl hone2
 have hx0 : Ext h h := .refl
 refine tV ?_
 refine oB fun b hb => ?_
 by_cases H0 : x.args = y.args
 rotate_left
 ·have e : b = false := by rw [hb]; simp [H0]
  subst e
  refine tW ?_
  exact no_eq rfl (fun e => H0 (congrArg Mth.args e)) hx0 (by simp)
 have e : b = true := by rw [hb]; simp [H0]
 subst e
 refine tV ?_
 refine oB fun b hb => ?_
 by_cases H1 : x.locals = y.locals
 rotate_left
 ·have e : b = false := by rw [hb]; simp [H1]
  subst e
  refine tW ?_
  exact no_eq rfl (fun e => H1 (congrArg Mth.locals e)) hx0 (by simp)
 have e : b = true := by rw [hb]; simp [H1]
 subst e
 refine tV ?_
 refine oB fun b hb => ?_
 by_cases H2 : x.stack = y.stack
 rotate_left
 ·have e : b = false := by rw [hb]; simp [H2]
  subst e
  refine tW ?_
  exact no_eq rfl (fun e => H2 (congrArg Mth.stack e)) hx0 (by simp)
 have e : b = true := by rw [hb]; simp [H2]
 subst e
 refine tV ?_
 refine oB fun b hb => ?_
 by_cases H3 : x.gives = y.gives
 rotate_left
 ·have e : b = false := by rw [hb]; simp [H3]
  subst e
  refine tW ?_
  exact no_eq rfl (fun e => H3 (congrArg Mth.gives e)) hx0 (by simp)
 have e : b = true := by rw [hb]; simp [H3]
 subst e
 refine tV ?_
 apply o_hcall rfl rfl rfl rfl (p113 (r1.mono RFour.mono hx0) (q1.mono RFour.mono hx0) wx.code.1 wy.code.1).go
 rintro _ k1 ⟨rfl, hy1⟩
 have hx1 := hx0.trans hy1
 clear hy1
 by_cases H4 : x.code = y.code
 rotate_left
 ·rw [decide_eq_false H4]
  refine tW ?_
  exact no_eq rfl (fun e => H4 (congrArg Mth.code e)) hx1 (by simp)
 rw [decide_eq_true H4]
 refine tV ?_
 apply o_hcall rfl rfl rfl rfl (p114 (r2.mono RFour.mono hx1) (q2.mono RFour.mono hx1) wx.traps.1 wy.traps.1).go
 rintro _ k2 ⟨rfl, hy2⟩
 have hx2 := hx1.trans hy2
 clear hy2
 by_cases H5 : x.traps = y.traps
 rotate_left
 ·rw [decide_eq_false H5]
  refine tW ?_
  exact no_eq rfl (fun e => H5 (congrArg Mth.traps e)) hx2 (by simp)
 rw [decide_eq_true H5]
 refine tW ?_
 exact yes_eq rfl (mth_ext H0 H1 H2 H3 H4 H5) hx2 (by simp)
end Go.Proofs
end
section
open Go Go.Abs Go.Proofs.SlimCode Go.Img
set_option maxRecDepth 100000
namespace Go.Proofs
theorem splice_all {z c : List AV} (h : z.length = c.length) : spliceL z 0 c = some c := by
 unfold spliceL
 rw [if_pos (by omega)]
 simp [h]
theorem ret_eq {α : Type} [DecidableEq α] {f t : Nat} {x y : α} {v : Bool} {E : Env} {h h' : Heap} {bx : List Nat} (hE : lk E t = some (.bool v)) (hv : v = decide (x = y)) (hx : Ext h h') (hb : ∀ b ∈ bx, h b = none) : lret Tryz.prog ann f [.tmp t] h (.bool (decide (x = y))) .ret E bx h' := lret_ret (vs := [.bool v]) (by simp only [resE, hE]) rfl (by rw [hv]; rfl) hx hb
def SF (s : Nat) (z : List AV) : SC := (.seq (.reg [] [⟨some 6, none, .mv (.c (.bool false))⟩])
 (.seq (.seq (.reg [] [⟨some 10, none, .mv (.r 0)⟩, ⟨some 11, none, .len (.r 10) none⟩, ⟨some 12, none, .mv (.r 1)⟩, ⟨some 13, none, .len (.r 12) none⟩, ⟨some 14, none, .bin .neq (.r 11) (.r 13)⟩])
 (.cond (.r 14) (.seq (.reg [] [⟨some 6, none, .mv (.c (.bool false))⟩]) .ret) .skip))
 (.seq (.seq (.reg [] [⟨some 15, none, .mv (.r 0)⟩, ⟨some 16, none, .len (.r 15) none⟩, ⟨some 17, none, .mv (.c (.int .i64 0))⟩])
 (.block 0 (.loop (.seq (.reg [] [⟨some 18, none, .bin .lss (.r 17) (.r 16)⟩])
  (.seq (.cond (.r 18) .skip (.exit 0))
  (.seq (.block 1 (.seq (.reg [] [⟨some 19, none, .mv (.r 17)⟩, ⟨some 20, none, .ia (.r 15) (.r 17) none s⟩, ⟨some 21, none, .ld (.r 20) (some s)⟩, ⟨some 8, none, .alc false z⟩, ⟨some 7, none, .mv (.r 19)⟩, ⟨none, none, .st (.r 8) (.r 21) s⟩])
   (.seq (.reg [] [⟨some 22, none, .mv (.r 1)⟩, ⟨some 23, none, .mv (.r 7)⟩, ⟨some 24, none, .ia (.r 22) (.r 23) none s⟩, ⟨some 25, none, .ld (.r 24) (some s)⟩, ⟨some 9, none, .alc false z⟩, ⟨none, none, .st (.r 9) (.r 25) s⟩])
   (.seq (.reg [] [⟨some 26, none, .mv (.r 2)⟩, ⟨some 27, none, .ld (.r 8) (some s)⟩, ⟨some 28, none, .ld (.r 9) (some s)⟩, ⟨some 29, none, .call (.r 26) [(.r 27), (.r 28)]⟩, ⟨some 30, none, .un .not (.r 29)⟩])
   (.cond (.r 30) (.seq (.reg [] [⟨some 6, none, .mv (.c (.bool false))⟩]) .ret) .skip)))))
  (.reg [] [⟨some 31, none, .bin .add (.r 17) (.c (.int .i64 1))⟩, ⟨some 17, none, .mv (.r 31)⟩])))))))
 (.seq (.reg [] [⟨some 6, none, .mv (.c (.bool true))⟩]) .ret))))
theorem sf_of {α : Type} [DecidableEq α] {f gf s : Nat} {z : List AV} {R : Heap → List AV → α → Prop} {W : α → Prop} {fn : Func} {h : Heap} {v1 v2 : AV} {a b : List α}
  (hp0 : ann.pure f = false) (hf : Tryz.prog.funcs[f]? = some fn) (hb : fn.body.bind (slC Tryz.prog ann f) = some (SF s z)) (hn : (fn.name == "runtime.NumGoroutine" || decide (fn.ntmps < 3)) = false) (hnt : fn.ntmps = 32) (hres : fn.results.toList = [.tmp 6])
  (hz : z.length = s) (hR : Mono R) (hone : ∀ h c x, R h c x → c.all AV.one = true) (hgf : ∀ h c d x y, R h c x → R h d y → W x → W y → Looks Tryz.prog ann gf ([] ++ [.agg c, .agg d] ++ []) h (.bool (decide (x = y))))
  (h1 : Sl R s h v1 a) (h2 : Sl R s h v2 b) (_l1 : a.length ≤ 9223372036854775807) (l2 : b.length ≤ 9223372036854775807) (w1 : ∀ x ∈ a, W x) (w2 : ∀ x ∈ b, W x) : Looks Tryz.prog ann f [v1, v2, .fn gf [] []] h (.bool (decide (a = b))) := by
 refine s_look_of (by rw [hp0]; rfl) hf hb hn ?_
 rw [hnt, hres]
 unfold SF
 refine tV ?_
 apply o_lenS rfl rfl h1
 refine tV ?_
 apply o_lenS rfl rfl h2
 refine oB fun b1 hb1 => ?_
 by_cases hl : a.length = b.length
 rotate_left
 ·have e1 : b1 = true := by rw [hb1]; simp; omega
  subst e1
  refine tW ?_
  exact ret_eq rfl (by rw [decide_eq_false (fun e => hl (by rw [e]))]) .refl (by simp)
 have e1 : b1 = false := by rw [hb1]; simp; omega
 subst e1
 refine tV ?_
 apply o_lenS rfl rfl h1
 refine tV ?_
 refine s_loopB (fun s : Nat × List Nat => [(1, v2), (2, .fn gf [] []), (15, v1), (16, .int .i64 (a.length : Int)), (17, .int .i64 (s.1 : Int))]) (fun s => s.2) (fun s h' => Ext h h' ∧ (∀ b ∈ s.2, h b = none) ∧ s.1 ≤ a.length ∧ a.take s.1 = b.take s.1) (fun s => a.length - s.1) (0, [])
  tU rfl ⟨.refl, by simp, Nat.zero_le _, by simp⟩ ?_
 rintro ⟨k, bx⟩ h' ⟨hx, hbx, hk, ht⟩
 simp only at hx hbx hk ht ⊢
 refine tW ?_
 refine oB fun b2 hb2 => ?_
 cases b2
 case false =>
  have hkl : k = a.length := by simp at hb2; omega
  have e : a = b := by
   rw [hkl, List.take_length] at ht
   rw [ht, hl, List.take_length]
  refine tW ?_
  exact ret_eq rfl (by rw [decide_eq_true e]) hx hbx
 have hkl : k < a.length := by simpa using hb2
 have hkl2 : k < b.length := by omega
 refine tV ?_
 apply o_iaS rfl rfl rfl (h1.mono hR hx) hkl
 intro p1 c1 hp1 hc1 q1
 apply o_ldVn rfl rfl hp1 q1 (fun h => by omega)
 apply o_alc rfl
 intro i8 hi8
 show SOps _ _ _ _ _ _ _ _ (i8 :: bx) _ _
 refine tv ?_
 apply o_st (v := .agg c1) (cs' := c1) rfl rfl rfl rfl q1 (hone _ _ _ hc1) upd_same (splice_all (hz.trans q1.symm))
 rw [upd_upd]
 have hn8 : h i8 = none := by
  cases e : h i8 with
  | none => rfl
  | some o => rw [hx _ _ e] at hi8; cases hi8
 have hx8 : Ext h' (upd h' i8 (some (.cells c1))) := .upd hi8
 have e8 : upd h' i8 (some (.cells c1)) i8 = some (.cells c1) := upd_same
 generalize upd h' i8 (some (.cells c1)) = k8 at hx8 e8 ⊢
 refine tV ?_
 apply o_iaS rfl rfl rfl (h2.mono hR (hx.trans hx8)) hkl2
 intro p2 c2 hp2 hc2 q2
 apply o_ldVn rfl rfl hp2 q2 (fun h => by omega)
 apply o_alc rfl
 intro i9 hi9
 show SOps _ _ _ _ _ _ _ _ (i9 :: i8 :: bx) _ _
 apply o_st (v := .agg c2) (cs' := c2) rfl rfl rfl rfl q2 (hone _ _ _ hc2) upd_same (splice_all (hz.trans q2.symm))
 rw [upd_upd]
 have hn9 : h i9 = none := by
  cases e : h i9 with
  | none => rfl
  | some o => rw [hx8 _ _ (hx _ _ e)] at hi9; cases hi9
 have hx9 : Ext k8 (upd k8 i9 (some (.cells c2))) := .upd hi9
 have e9 : upd k8 i9 (some (.cells c2)) i9 = some (.cells c2) := upd_same
 replace e8 := hx9 _ _ e8
 generalize upd k8 i9 (some (.cells c2)) = k9 at hx9 e8 e9 ⊢
 refine tV ?_
 apply o_ldhn rfl rfl e8 (fun h => by omega) (sliceL_all q1)
 apply o_ldhn rfl rfl e9 (fun h => by omega) (sliceL_all q2)
 apply o_hcall rfl rfl rfl rfl (hgf _ _ _ _ _ (hR _ _ _ _ (hx8.trans hx9) hc1) (hR _ _ _ _ hx9 hc2) (w1 _ (List.getElem_mem hkl)) (w2 _ (List.getElem_mem hkl2))).go
 rintro _ k10 ⟨rfl, hx10⟩
 have hxx := ((hx.trans hx8).trans hx9).trans hx10
 have hbb : ∀ b ∈ i9 :: i8 :: bx, h b = none := fun b hb => by
  rcases List.mem_cons.1 hb with rfl | hb
  ·exact hn9
  ·rcases List.mem_cons.1 hb with rfl | hb
   ·exact hn8
   ·exact hbx b hb
 apply o_val rfl rfl trivial
 by_cases he : a[k] = b[k]
 rotate_left
 ·rw [decide_eq_false he]
  refine tW ?_
  exact ret_eq rfl (by rw [decide_eq_false (fun e => he (by subst e; rfl))]) hxx hbb
 rw [decide_eq_true he]
 refine tW ?_
 rw [w64 (n := (k : Int) + 1) (by omega) (by omega)]
 refine ⟨(k + 1, i9 :: i8 :: bx), by simp only; omega, tU, rfl, hxx, hbb, by omega, ?_⟩
 simp only
 rw [List.take_add_one, List.take_add_one, ht, List.getElem?_eq_getElem hkl, List.getElem?_eq_getElem hkl2, he]
theorem p67 {h : Heap} {v1 v2 : AV} {a b : List Cls} (h1 : Sl RCls 10 h v1 a) (h2 : Sl RCls 10 h v2 b) (l1 : Len a ∧ ∀ x ∈ a, x.WF) (l2 : Len b ∧ ∀ x ∈ b, x.WF) : Looks Tryz.prog ann 67 [v1, v2, .fn 68 [] []] h (.bool (decide (a = b))) :=
 sf_of (s := 10) (z := [.str [], I 0, I 0, .nil .sl, .nil .sl, .nil .sl, .nil .sl, I 0, I 0, .bool false]) (W := Cls.WF) rfl Tryz.func67 (frc (by with_unfolding_all rfl)) rfl rfl rfl rfl RCls.mono (fun _ _ _ h => h.one) (fun _ _ _ _ _ h1 h2 w1 w2 => p68 h1 h2 w1 w2) h1 h2 l1.1 l2.1 l1.2 l2.2
theorem p69 {h : Heap} {v1 v2 : AV} {a b : List Mth} (h1 : Sl RMth 6 h v1 a) (h2 : Sl RMth 6 h v2 b) (l1 : Len a ∧ ∀ x ∈ a, x.WF) (l2 : Len b ∧ ∀ x ∈ b, x.WF) : Looks Tryz.prog ann 69 [v1, v2, .fn 70 [] []] h (.bool (decide (a = b))) :=
 sf_of (s := 6) (z := [I 0, I 0, I 0, .bool false, .nil .sl, .nil .sl]) (W := Mth.WF) rfl Tryz.func69 (frc (by with_unfolding_all rfl)) rfl rfl rfl rfl RMth.mono (fun _ _ _ h => h.one) (fun _ _ _ _ _ h1 h2 w1 w2 => p70 h1 h2 w1 w2) h1 h2 l1.1 l2.1 l1.2 l2.2
theorem p19 {h : Heap} {c d : List AV} {x y : Image} (hc : RImg h c x) (hd : RImg h d y) (wx : x.WF) (wy : y.WF) : Looks Tryz.prog ann 19 [.agg c, .agg d] h (.bool (decide (x = y))) := by
 have hone := hc.one
 have hone2 := hd.one
 obtain ⟨vc, vm, vg, vw, vr, vs, vf, rfl, r1, r2, r3, r4, r5, r6, r7⟩ := hc
 obtain ⟨vc', vm', vg', vw', vr', vs', vf', rfl, q1, q2, q3, q4, q5, q6, q7⟩ := hd
 refine s_look_of rfl Tryz.func19 (frc (by with_unfolding_all rfl)) rfl ?_
 refine tS ?_
 apply o_val rfl rfl hone
 apply o_val rfl rfl hone2
 refine tv ?_
 ((with_reducible apply o_nil); (with_reducible apply ssq_norm))
 apply s_join (σ := Unit) (fun _ => [(2, .tptr [vc, vm, I x.entry, I x.need, vg, vw, vr, vs, vf] 0), (3, .tptr [vc', vm', I y.entry, I y.need, vg', vw', vr', vs', vf'] 0), (5, .bool (decide (x.classes = y.classes) && decide (x.methods = y.methods)))]) (fun _ h' => Ext h h')
 ·refine tV ?_
  apply o_hcall rfl rfl rfl rfl (p67 r1 q1 wx.classes wy.classes).go
  rintro _ k1 ⟨rfl, hx1⟩
  by_cases H0 : x.classes = y.classes
  rotate_left
  ·rw [decide_eq_false H0]
   refine tW ?_
   exact ⟨(), tU, rfl, hx1⟩
  rw [decide_eq_true H0]
  refine tV ?_
  apply o_hcall rfl rfl rfl rfl (p69 (r2.mono RMth.mono hx1) (q2.mono RMth.mono hx1) wx.methods wy.methods).go
  rintro _ k2 ⟨rfl, hx2⟩
  refine tW ?_
  exact ⟨(), tU, rfl, hx1.trans hx2⟩
 rintro _ k0 hx0
 apply s_join (σ := Unit) (fun _ => [(2, .tptr [vc, vm, I x.entry, I x.need, vg, vw, vr, vs, vf] 0), (3, .tptr [vc', vm', I y.entry, I y.need, vg', vw', vr', vs', vf'] 0), (5, .bool (decide (x.classes = y.classes) && decide (x.methods = y.methods))), (6, .bool (decide (x.words = y.words) && (decide (x.rel = y.rel) && (decide (x.stat = y.stat) && decide (x.statref = y.statref)))))]) (fun _ h' => Ext h h')
 ·refine tV ?_
  apply o_hcall rfl rfl rfl rfl (p71 (r4.mono RN.mono hx0) (q4.mono RN.mono hx0) wx.words.1 wy.words.1).go
  rintro _ m0 ⟨rfl, hy0⟩
  have hz0 := hx0.trans hy0
  by_cases K0 : x.words = y.words
  rotate_left
  ·rw [decide_eq_false K0]
   refine tW ?_
   exact ⟨(), tU, rfl, hz0⟩
  rw [decide_eq_true K0]
  refine tV ?_
  apply o_hcall rfl rfl rfl rfl (p72 (r5.mono RN.mono hz0) (q5.mono RN.mono hz0) wx.rel.1 wy.rel.1).go
  rintro _ m1 ⟨rfl, hy1⟩
  have hz1 := hz0.trans hy1
  by_cases K1 : x.rel = y.rel
  rotate_left
  ·rw [decide_eq_false K1]
   refine tW ?_
   exact ⟨(), tU, rfl, hz1⟩
  rw [decide_eq_true K1]
  refine tV ?_
  apply o_hcall rfl rfl rfl rfl (p71 (r6.mono RN.mono hz1) (q6.mono RN.mono hz1) wx.stat.1 wy.stat.1).go
  rintro _ m2 ⟨rfl, hy2⟩
  have hz2 := hz1.trans hy2
  by_cases K2 : x.stat = y.stat
  rotate_left
  ·rw [decide_eq_false K2]
   refine tW ?_
   exact ⟨(), tU, rfl, hz2⟩
  rw [decide_eq_true K2]
  refine tV ?_
  apply o_hcall rfl rfl rfl rfl (p73 (r7.mono RB.mono hz2) (q7.mono RB.mono hz2) wx.statref wy.statref).go
  rintro _ m3 ⟨rfl, hy3⟩
  have hz3 := hz2.trans hy3
  refine tW ?_
  exact ⟨(), tU, rfl, hz3⟩
 rintro _ n0 hw0
 by_cases A0 : x.classes = y.classes ∧ x.methods = y.methods
 rotate_left
 ·have e : (decide (x.classes = y.classes) && decide (x.methods = y.methods)) = false := by
   rw [← Bool.decide_and]
   exact decide_eq_false A0
  rw [e]
  refine tW ?_
  exact ret_eq rfl (by rw [decide_eq_false (fun e => A0 (by rw [e]; exact ⟨rfl, rfl⟩))]) hw0 (by simp)
 have e : (decide (x.classes = y.classes) && decide (x.methods = y.methods)) = true := by
  rw [← Bool.decide_and]
  exact decide_eq_true A0
 rw [e]
 by_cases A1 : x.words = y.words ∧ x.rel = y.rel ∧ x.stat = y.stat ∧ x.statref = y.statref
 rotate_left
 ·have e : (decide (x.words = y.words) && (decide (x.rel = y.rel) && (decide (x.stat = y.stat) && decide (x.statref = y.statref)))) = false := by
   simp only [← Bool.decide_and]
   exact decide_eq_false A1
  rw [e]
  refine tW ?_
  exact ret_eq rfl (by rw [decide_eq_false (fun e => A1 (by rw [e]; exact ⟨rfl, rfl, rfl, rfl⟩))]) hw0 (by simp)
 have e : (decide (x.words = y.words) && (decide (x.rel = y.rel) && (decide (x.stat = y.stat) && decide (x.statref = y.statref)))) = true := by
  simp only [← Bool.decide_and]
  exact decide_eq_true A1
 rw [e]
 refine tW ?_
 refine oB fun b3 hb3 => ?_
 by_cases B0 : x.entry = y.entry
 rotate_left
 ·have e : b3 = false := by rw [hb3]; simp [B0]
  subst e
  refine tW ?_
  exact ret_eq rfl (by rw [decide_eq_false (fun e => B0 (by rw [e]))]) hw0 (by simp)
 have e : b3 = true := by rw [hb3]; simp [B0]
 subst e
 refine tW ?_
 refine oB fun b4 hb4 => ?_
 by_cases B1 : x.need = y.need
 rotate_left
 ·have e : b4 = false := by rw [hb4]; simp [B1]
  subst e
  refine tW ?_
  exact ret_eq rfl (by rw [decide_eq_false (fun e => B1 (by rw [e]))]) hw0 (by simp)
 have e : b4 = true := by rw [hb4]; simp [B1]
 subst e
 refine tV ?_
 apply o_hcall rfl rfl rfl rfl (p72 (r3.mono RN.mono hw0) (q3.mono RN.mono hw0) wx.given.1 wy.given.1).go
 rintro _ n1 ⟨rfl, hw1⟩
 refine tW ?_
 refine ret_eq rfl ?_ (hw0.trans hw1) (by simp)
 by_cases B2 : x.given = y.given
 ·rw [decide_eq_true B2, decide_eq_true (img_ext A0.1 A0.2 B0 B1 B2 A1.1 A1.2.1 A1.2.2.1 A1.2.2.2)]
 ·rw [decide_eq_false B2, decide_eq_false (fun e => B2 (by rw [e]))]
end Go.Proofs
end
section
open Go Go.Abs Go.Proofs.SlimCode Go.Img
set_option maxRecDepth 100000
namespace Go.Proofs
theorem p65 {h : Heap} {c d : List AV} {x y : Cls} (hc : RCls h c x) (hd : RCls h d y) (wx : x.WF) (wy : y.WF) : Looks Tryz.prog ann 65 [.agg c, .agg d] h (.bool (decide (x = y))) := by
 have hone := hc.one
 have hone2 := hd.one
 obtain ⟨vr, vs, vt, vf, rfl, r1, r2, r3, r4⟩ := hc
 obtain ⟨vr', vs', vt', vf', rfl, q1, q2, q3, q4⟩ := hd
 refine s_look_of rfl Tryz.func65 (frc (by with_unfolding_all rfl)) rfl ?_
 refine tS ?_
 apply o_val rfl rfl hone
 apply o_val rfl rfl hone2
 have hx0 : Ext h h := .refl
 refine tV ?_
 refine oB fun b hb => ?_
 by_cases H0 : x.name = y.name
 rotate_left
 ·have e : b = true := by rw [hb]; simp [H0]
  subst e
  refine tW ?_
  exact no_eq rfl (fun e => H0 (congrArg Cls.name e)) hx0 (by simp)
 have e : b = false := by rw [hb]; simp [H0]
 subst e
 refine tV ?_
 refine oB fun b hb => ?_
 by_cases H1 : x.super = y.super
 rotate_left
 ·have e : b = true := by rw [hb]; simp [H1]
  subst e
  refine tW ?_
  exact no_eq rfl (fun e => H1 (congrArg Cls.super e)) hx0 (by simp)
 have e : b = false := by rw [hb]; simp [H1]
 subst e
 refine tV ?_
 refine oB fun b hb => ?_
 by_cases H2 : x.init = y.init
 rotate_left
 ·have e : b = true := by rw [hb]; simp [H2]
  subst e
  refine tW ?_
  exact no_eq rfl (fun e => H2 (congrArg Cls.init e)) hx0 (by simp)
 have e : b = false := by rw [hb]; simp [H2]
 subst e
 refine tV ?_
 apply o_hcall rfl rfl rfl rfl (p64 (r1.mono RB.mono hx0) (q1.mono RB.mono hx0) wx.refs wy.refs).go
 rintro _ k1 ⟨rfl, hy1⟩
 have hx1 := hx0.trans hy1
 clear hy1
 by_cases H3 : x.refs = y.refs
 rotate_left
 ·rw [decide_eq_false H3]
  refine tw ?_
  apply o_val rfl rfl trivial
  refine tW ?_
  exact no_eq rfl (fun e => H3 (congrArg Cls.refs e)) hx1 (by simp)
 rw [decide_eq_true H3]
 refine tw ?_
 apply o_val rfl rfl trivial
 refine tV ?_
 apply o_hcall rfl rfl rfl rfl (p62 (r2.mono RN.mono hx1) (q2.mono RN.mono hx1) wx.subs.1 wy.subs.1).go
 rintro _ k2 ⟨rfl, hy2⟩
 have hx2 := hx1.trans hy2
 clear hy2
 by_cases H4 : x.subs = y.subs
 rotate_left
 ·rw [decide_eq_false H4]
  refine tw ?_
  apply o_val rfl rfl trivial
  refine tW ?_
  exact no_eq rfl (fun e => H4 (congrArg Cls.subs e)) hx2 (by simp)
 rw [decide_eq_true H4]
 refine tw ?_
 apply o_val rfl rfl trivial
 refine tV ?_
 apply o_hcall rfl rfl rfl rfl (p62 (r3.mono RN.mono hx2) (q3.mono RN.mono hx2) wx.slots.1 wy.slots.1).go
 rintro _ k3 ⟨rfl, hy3⟩
 have hx3 := hx2.trans hy3
 clear hy3
 by_cases H5 : x.slots = y.slots
 rotate_left
 ·rw [decide_eq_false H5]
  refine tw ?_
  apply o_val rfl rfl trivial
  refine tW ?_
  exact no_eq rfl (fun e => H5 (congrArg Cls.slots e)) hx3 (by simp)
 rw [decide_eq_true H5]
 refine tw ?_
 apply o_val rfl rfl trivial
 refine tV ?_
 apply o_lenS rfl rfl (r4.mono RPair.mono hx3)
 refine tV ?_
 apply o_lenS rfl rfl (q4.mono RPair.mono hx3)
 refine tV ?_
 refine oB fun b hb => ?_
 by_cases H6 : x.faces.length = y.faces.length
 rotate_left
 ·have e : b = true := by rw [hb]; simp; omega
  subst e
  refine tW ?_
  exact no_eq rfl (fun e => H6 (congrArg (fun z => z.faces.length) e)) hx3 (by simp)
 have e : b = false := by rw [hb]; simp; omega
 subst e
 refine tV ?_
 refine oB fun b hb => ?_
 by_cases H7 : x.array = y.array
 rotate_left
 ·have e : b = true := by rw [hb]; simp [H7]
  subst e
  refine tW ?_
  exact no_eq rfl (fun e => H7 (congrArg Cls.array e)) hx3 (by simp)
 have e : b = false := by rw [hb]; simp [H7]
 subst e
 refine tV ?_
 refine oB fun b hb => ?_
 by_cases H8 : x.elem = y.elem
 rotate_left
 ·have e : b = true := by rw [hb]; simp [H8]
  subst e
  refine tW ?_
  exact no_eq rfl (fun e => H8 (congrArg Cls.elem e)) hx3 (by simp)
 have e : b = false := by rw [hb]; simp [H8]
 subst e
 refine tV ?_
 refine oB fun b hb => ?_
 by_cases H9 : x.thrown = y.thrown
 rotate_left
 ·have e : b = true := by rw [hb]; simp [H9]
  subst e
  refine tW ?_
  exact no_eq rfl (fun e => H9 (congrArg Cls.thrown e)) hx3 (by simp)
 have e : b = false := by rw [hb]; simp [H9]
 subst e
 have wl : Len x.faces := wx.faces.1
 unfold Len at wl
 refine tV ?_
 refine s_loop (fun k : Nat => [(2, .tptr [.str x.name, I x.super, I x.init, vr, vs, vt, vf, I x.array, I x.elem, .bool x.thrown] 0), (3, .tptr [.str y.name, I y.super, I y.init, vr', vs', vt', vf', I y.array, I y.elem, .bool y.thrown] 0), (5, .int .i64 (k : Int))]) (fun k h' => h' = k3 ∧ k ≤ x.faces.length ∧ x.faces.take k = y.faces.take k) (fun k => x.faces.length - k) 0
  tU ⟨rfl, Nat.zero_le _, by simp⟩ ?_
 rintro k h' ⟨rfl, hk, ht⟩
 have hf1 := r4.mono RPair.mono hx3
 have hf2 := q4.mono RPair.mono hx3
 refine tV ?_
 apply o_lenS rfl rfl hf1
 refine oB fun b2 hb2 => ?_
 cases b2
 case false =>
  have hkl : k = x.faces.length := by simp at hb2; omega
  have e : x.faces = y.faces := by
   rw [hkl, List.take_length] at ht
   rw [ht, H6, List.take_length]
  refine tW ?_
  exact yes_eq rfl (cls_ext H0 H1 H2 H7 H8 H9 H3 H4 H5 e) hx3 (by simp)
 have hkl : k < x.faces.length := by simpa using hb2
 have hkl2 : k < y.faces.length := by omega
 refine tV ?_
 apply o_iaS rfl rfl rfl hf1 hkl
 intro pa0 ca0 hpa0 hca0 _
 obtain rfl := hca0
 refine tV ?_
 apply o_iaP (z := 0) [I x.faces[k].1] rfl rfl rfl hpa0 (by decide) (by decide) rfl
 intro ea0 hea0
 refine tV ?_
 apply o_ldV rfl rfl hea0 (fun _ => .refl)
 refine tV ?_
 apply o_iaS rfl rfl rfl hf2 hkl2
 intro pb0 cb0 hpb0 hcb0 _
 obtain rfl := hcb0
 refine tV ?_
 apply o_iaP (z := 0) [I y.faces[k].1] rfl rfl rfl hpb0 (by decide) (by decide) rfl
 intro eb0 heb0
 refine tV ?_
 apply o_ldV rfl rfl heb0 (fun _ => .refl)
 refine tV ?_
 refine oB fun b hb => ?_
 by_cases Hc0 : x.faces[k].1 = y.faces[k].1
 rotate_left
 ·have e : b = true := by rw [hb]; simp [Hc0]
  subst e
  refine tW ?_
  exact no_eq rfl (fun e => Hc0 (by subst e; rfl)) hx3 (by simp)
 have e : b = false := by rw [hb]; simp [Hc0]
 subst e
 refine tV ?_
 apply o_iaS rfl rfl rfl hf1 hkl
 intro pa1 ca1 hpa1 hca1 _
 obtain rfl := hca1
 refine tV ?_
 apply o_iaP (z := 1) [I x.faces[k].2] rfl rfl rfl hpa1 (by decide) (by decide) rfl
 intro ea1 hea1
 refine tV ?_
 apply o_ldV rfl rfl hea1 (fun _ => .refl)
 refine tV ?_
 apply o_iaS rfl rfl rfl hf2 hkl2
 intro pb1 cb1 hpb1 hcb1 _
 obtain rfl := hcb1
 refine tV ?_
 apply o_iaP (z := 1) [I y.faces[k].2] rfl rfl rfl hpb1 (by decide) (by decide) rfl
 intro eb1 heb1
 refine tV ?_
 apply o_ldV rfl rfl heb1 (fun _ => .refl)
 refine tV ?_
 refine oB fun b hb => ?_
 by_cases Hc1 : x.faces[k].2 = y.faces[k].2
 rotate_left
 ·have e : b = true := by rw [hb]; simp [Hc1]
  subst e
  refine tW ?_
  exact no_eq rfl (fun e => Hc1 (by subst e; rfl)) hx3 (by simp)
 have e : b = false := by rw [hb]; simp [Hc1]
 subst e
 have he : x.faces[k] = y.faces[k] := Prod.ext Hc0 Hc1
 refine tW ?_
 rw [w64 (n := (k : Int) + 1) (by omega) (by omega)]
 refine ⟨k + 1, by simp only; omega, tU, rfl, rfl, by omega, ?_⟩
 rw [List.take_add_one, List.take_add_one, ht, List.getElem?_eq_getElem hkl, List.getElem?_eq_getElem hkl2, he]
end Go.Proofs
end
section
open Go Go.Abs Go.Proofs.SlimCode Go.Img
set_option maxRecDepth 100000
namespace Go.Proofs
theorem p66 {h : Heap} {c d : List AV} {x y : Mth} (hc : RMth h c x) (hd : RMth h d y) (wx : x.WF) (wy : y.WF) : Looks Tryz.prog ann 66 [.agg c, .agg d] h (.bool (decide (x = y))) := by
 have hone := hc.one
 have hone2 := hd.one
 obtain ⟨vc, vt, rfl, r1, r2⟩ := hc
 obtain ⟨vc', vt', rfl, q1, q2⟩ := hd
 refine s_look_of rfl Tryz.func66 (frc (by with_unfolding_all rfl)) rfl ?_
 refine tS ?_
 apply o_val rfl rfl hone
 apply o_val rfl rfl hone2
 have hx0 : Ext h h := .refl
 refine tV ?_
 refine oB fun b hb => ?_
 by_cases H0 : x.args = y.args
 rotate_left
 ·have e : b = true := by rw [hb]; simp [H0]
  subst e
  refine tW ?_
  exact no_eq rfl (fun e => H0 (congrArg Mth.args e)) hx0 (by simp)
 have e : b = false := by rw [hb]; simp [H0]
 subst e
 refine tV ?_
 refine oB fun b hb => ?_
 by_cases H1 : x.locals = y.locals
 rotate_left
 ·have e : b = true := by rw [hb]; simp [H1]
  subst e
  refine tW ?_
  exact no_eq rfl (fun e => H1 (congrArg Mth.locals e)) hx0 (by simp)
 have e : b = false := by rw [hb]; simp [H1]
 subst e
 refine tV ?_
 refine oB fun b hb => ?_
 by_cases H2 : x.stack = y.stack
 rotate_left
 ·have e : b = true := by rw [hb]; simp [H2]
  subst e
  refine tW ?_
  exact no_eq rfl (fun e => H2 (congrArg Mth.stack e)) hx0 (by simp)
 have e : b = false := by rw [hb]; simp [H2]
 subst e
 refine tV ?_
 refine oB fun b hb => ?_
 by_cases H3 : x.gives = y.gives
 rotate_left
 ·have e : b = true := by rw [hb]; simp [H3]
  subst e
  refine tW ?_
  exact no_eq rfl (fun e => H3 (congrArg Mth.gives e)) hx0 (by simp)
 have e : b = false := by rw [hb]; simp [H3]
 subst e
 refine tV ?_
 apply o_lenS rfl rfl (r1.mono RFour.mono hx0)
 refine tV ?_
 apply o_lenS rfl rfl (q1.mono RFour.mono hx0)
 refine tV ?_
 refine oB fun b hb => ?_
 by_cases H4 : x.code.length = y.code.length
 rotate_left
 ·have e : b = true := by rw [hb]; simp; omega
  subst e
  refine tW ?_
  exact no_eq rfl (fun e => H4 (congrArg (fun z => z.code.length) e)) hx0 (by simp)
 have e : b = false := by rw [hb]; simp; omega
 subst e
 refine tV ?_
 apply o_lenS rfl rfl (r2.mono RFour.mono hx0)
 refine tV ?_
 apply o_lenS rfl rfl (q2.mono RFour.mono hx0)
 refine tV ?_
 refine oB fun b hb => ?_
 by_cases H5 : x.traps.length = y.traps.length
 rotate_left
 ·have e : b = true := by rw [hb]; simp; omega
  subst e
  refine tW ?_
  exact no_eq rfl (fun e => H5 (congrArg (fun z => z.traps.length) e)) hx0 (by simp)
 have e : b = false := by rw [hb]; simp; omega
 subst e
 have wcode : Len x.code := wx.code.1
 unfold Len at wcode
 refine tV ?_
 refine s_loopB (fun s : Nat × List Nat => [(2, .tptr [I x.args, I x.locals, I x.stack, .bool x.gives, vc, vt] 0), (3, .tptr [I y.args, I y.locals, I y.stack, .bool y.gives, vc', vt'] 0), (5, .int .i64 (s.1 : Int))]) (fun s => s.2) (fun s h' => Ext h h' ∧ (∀ b ∈ s.2, h b = none) ∧ s.1 ≤ x.code.length ∧ x.code.take s.1 = y.code.take s.1) (fun s => x.code.length - s.1) (0, [])
  tU rfl ⟨.refl, by simp, Nat.zero_le _, by simp⟩ ?_
 rintro ⟨k, bx0⟩ h' ⟨hx1, hbx0, hk, ht⟩
 simp only at hx1 hbx0 hk ht ⊢
 have hf1 := r1.mono RFour.mono hx1
 have hf2 := q1.mono RFour.mono hx1
 refine tV ?_
 apply o_lenS rfl rfl hf1
 refine oB fun b2 hb2 => ?_
 cases b2
 case false =>
  have hkl : k = x.code.length := by simp at hb2; omega
  have he0 : x.code = y.code := by
   rw [hkl, List.take_length] at ht
   rw [ht, H4, List.take_length]
  clear hf1 hf2 hb2 hk ht hkl
  have wtraps : Len x.traps := wx.traps.1
  unfold Len at wtraps
  refine tV ?_
  refine s_loopB (fun s : Nat × List Nat => [(2, .tptr [I x.args, I x.locals, I x.stack, .bool x.gives, vc, vt] 0), (3, .tptr [I y.args, I y.locals, I y.stack, .bool y.gives, vc', vt'] 0), (8, .int .i64 (s.1 : Int))]) (fun s => s.2) (fun s h' => Ext h h' ∧ (∀ b ∈ s.2, h b = none) ∧ s.1 ≤ x.traps.length ∧ x.traps.take s.1 = y.traps.take s.1) (fun s => x.traps.length - s.1) (0, bx0)
   tU rfl ⟨hx1, hbx0, Nat.zero_le _, by simp⟩ ?_
  rintro ⟨k, bx1⟩ h' ⟨hx2, hbx1, hk, ht⟩
  simp only at hx2 hbx1 hk ht ⊢
  have hf1 := r2.mono RFour.mono hx2
  have hf2 := q2.mono RFour.mono hx2
  refine tV ?_
  apply o_lenS rfl rfl hf1
  refine oB fun b2 hb2 => ?_
  cases b2
  case false =>
   have hkl : k = x.traps.length := by simp at hb2; omega
   have he1 : x.traps = y.traps := by
    rw [hkl, List.take_length] at ht
    rw [ht, H5, List.take_length]
   clear hf1 hf2 hb2 hk ht hkl
   refine tW ?_
   exact yes_eq rfl (mth_ext H0 H1 H2 H3 he0 he1) hx2 hbx1
  have hkl : k < x.traps.length := by simpa using hb2
  have hkl2 : k < y.traps.length := by omega
  have hS : ∀ id ∈ slIds vt ++ slIds vt', h' id ≠ none := fun id hid => by
   rcases List.mem_append.1 hid with hid | hid
   ·obtain ⟨_, g, _⟩ := hf1
    exact g.live id hid
   ·obtain ⟨_, g, _⟩ := hf2
    exact g.live id hid
  ((with_reducible apply o_nil); (with_reducible apply ssq_norm))
  (with_reducible apply s_condT)
  exact rfl
  (with_reducible apply s_skip)
  (with_reducible apply ssq_norm)
  (with_reducible apply s_seq)
  (with_reducible apply s_block)
  (with_reducible apply s_seq)
  apply s_regX (slIds vt ++ slIds vt') [.A, .B, .A, .A, .B, .A, .B, .A, .A, .B, .C, .C, .A, .A] hS rfl
  apply x_v rfl rfl trivial
  apply x_ldB (v := vt) rfl rfl (.t [I x.args, I x.locals, I x.stack, .bool x.gives, vc, vt] [vt] (0 + 5) rfl) trivial (.one rfl)
  apply x_v rfl rfl trivial
  apply x_iaA rfl rfl rfl hf1 hkl (fun i hi => List.mem_append_left _ hi)
  intro p1 c1 hp1 hm1 hc1 _
  obtain rfl := hc1
  apply x_ldB (v := .agg [I x.traps[k].1, I x.traps[k].2.1, I x.traps[k].2.2.1, I x.traps[k].2.2.2]) rfl rfl hp1 hm1 (.many rfl rfl)
  apply x_v rfl rfl trivial
  apply x_ldB (v := vt') rfl rfl (.t [I y.args, I y.locals, I y.stack, .bool y.gives, vc', vt'] [vt'] (0 + 5) rfl) trivial (.one rfl)
  apply x_v rfl rfl trivial
  apply x_iaA rfl rfl rfl hf2 hkl2 (fun i hi => List.mem_append_right _ hi)
  intro p2 c2 hp2 hm2 hc2 _
  obtain rfl := hc2
  apply x_ldB (v := .agg [I y.traps[k].1, I y.traps[k].2.1, I y.traps[k].2.2.1, I y.traps[k].2.2.2]) rfl rfl hp2 hm2 (.many rfl rfl)
  apply x_alcC rfl
  intro i6 hi6
  apply x_alcC rfl
  intro i7 hi7
  have hn6 : i6 ∉ slIds vt ++ slIds vt' := fun hc => hS i6 hc hi6
  have hn67 : i6 ≠ i7 := fun hc => by
   have hi7 : upd h' i6 (some (.cells [I 0, I 0, I 0, I 0])) i7 = none := hi7
   rw [← hc, upd_same] at hi7
   cases hi7
  have hi7' : h' i7 = none := by
   have hi7 : upd h' i6 (some (.cells [I 0, I 0, I 0, I 0])) i7 = none := hi7
   rwa [upd_ne (Ne.symm hn67)] at hi7
  have hn7 : i7 ∉ slIds vt ++ slIds vt' := fun hc => hS i7 hc hi7'
  have hxa : Ext h' (upd (upd h' i6 (some (.cells [I 0, I 0, I 0, I 0]))) i7 (some (.cells [I 0, I 0, I 0, I 0]))) := (Ext.upd hi6).trans (.upd hi7)
  have ea6 : (upd (upd h' i6 (some (.cells [I 0, I 0, I 0, I 0]))) i7 (some (.cells [I 0, I 0, I 0, I 0]))) i6 = some (.cells [I 0, I 0, I 0, I 0]) := by rw [upd_ne hn67, upd_same]
  have ea7 : (upd (upd h' i6 (some (.cells [I 0, I 0, I 0, I 0]))) i7 (some (.cells [I 0, I 0, I 0, I 0]))) i7 = some (.cells [I 0, I 0, I 0, I 0]) := upd_same
  show SOpsX _ _ _ _ _ _ _ _ (i7 :: i6 :: bx1) (upd (upd h' i6 (some (.cells [I 0, I 0, I 0, I 0]))) i7 (some (.cells [I 0, I 0, I 0, I 0]))) _
  generalize upd (upd h' i6 (some (.cells [I 0, I 0, I 0, I 0]))) i7 (some (.cells [I 0, I 0, I 0, I 0])) = ka at hxa ea6 ea7 ⊢
  refine x_A (R := fun E' bx' k1 => E' = _ ∧ bx' = i7 :: i6 :: bx1 ∧ k1 = upd (killL (slIds vt ++ slIds vt') ka) i6 (some (.cells [I x.traps[k].1, I x.traps[k].2.1, I x.traps[k].2.2.1, I x.traps[k].2.2.2]))) (o_st (v := .agg [I x.traps[k].1, I x.traps[k].2.1, I x.traps[k].2.2.1, I x.traps[k].2.2.2]) (cs' := [I x.traps[k].1, I x.traps[k].2.1, I x.traps[k].2.2.1, I x.traps[k].2.2.2]) rfl rfl rfl rfl rfl rfl ((kill_out hn6).trans ea6) rfl (o_nil ⟨rfl, rfl, rfl, rfl⟩)) ?_
  rintro _ _ _ ⟨rfl, rfl, rfl⟩ _
  rw [join_upd hn6]
  have hxb : Ext h' (upd ka i6 (some (.cells [I x.traps[k].1, I x.traps[k].2.1, I x.traps[k].2.2.1, I x.traps[k].2.2.2]))) := ext_set hxa hi6
  have eb6 : upd ka i6 (some (.cells [I x.traps[k].1, I x.traps[k].2.1, I x.traps[k].2.2.1, I x.traps[k].2.2.2])) i6 = some (.cells [I x.traps[k].1, I x.traps[k].2.1, I x.traps[k].2.2.1, I x.traps[k].2.2.2]) := upd_same
  have eb7 : upd ka i6 (some (.cells [I x.traps[k].1, I x.traps[k].2.1, I x.traps[k].2.2.1, I x.traps[k].2.2.2])) i7 = _ := (upd_ne (Ne.symm hn67)).trans ea7
  generalize upd ka i6 (some (.cells [I x.traps[k].1, I x.traps[k].2.1, I x.traps[k].2.2.1, I x.traps[k].2.2.2])) = kb at hxb eb6 eb7 ⊢
  refine x_A (R := fun E' bx' k1 => E' = _ ∧ bx' = i7 :: i6 :: bx1 ∧ k1 = upd (killL (slIds vt ++ slIds vt') kb) i7 (some (.cells [I y.traps[k].1, I y.traps[k].2.1, I y.traps[k].2.2.1, I y.traps[k].2.2.2]))) (o_st (v := .agg [I y.traps[k].1, I y.traps[k].2.1, I y.traps[k].2.2.1, I y.traps[k].2.2.2]) (cs' := [I y.traps[k].1, I y.traps[k].2.1, I y.traps[k].2.2.1, I y.traps[k].2.2.2]) rfl rfl rfl rfl rfl rfl ((kill_out hn7).trans eb7) rfl (o_nil ⟨rfl, rfl, rfl, rfl⟩)) ?_
  rintro _ _ _ ⟨rfl, rfl, rfl⟩ _
  rw [join_upd hn7]
  have hxc : Ext h' (upd kb i7 (some (.cells [I y.traps[k].1, I y.traps[k].2.1, I y.traps[k].2.2.1, I y.traps[k].2.2.2]))) := ext_set hxb hi7'
  have ec7 : upd kb i7 (some (.cells [I y.traps[k].1, I y.traps[k].2.1, I y.traps[k].2.2.1, I y.traps[k].2.2.2])) i7 = some (.cells [I y.traps[k].1, I y.traps[k].2.1, I y.traps[k].2.2.1, I y.traps[k].2.2.2]) := upd_same
  have ec6 : upd kb i7 (some (.cells [I y.traps[k].1, I y.traps[k].2.1, I y.traps[k].2.2.1, I y.traps[k].2.2.2])) i6 = _ := (upd_ne hn67).trans eb6
  generalize upd kb i7 (some (.cells [I y.traps[k].1, I y.traps[k].2.1, I y.traps[k].2.2.1, I y.traps[k].2.2.2])) = kc at hxc ec6 ec7 ⊢
  apply x_nil
  have hxx := hx2.trans hxc
  have hbb : ∀ b ∈ i7 :: i6 :: bx1, h b = none := fun b hb => by
   have hno : ∀ j, h' j = none → h j = none := fun j hj => by
    cases e : h j with
    | none => rfl
    | some o => rw [hx2 _ _ e] at hj; cases hj
   rcases List.mem_cons.1 hb with rfl | hb
   ·exact hno _ hi7'
   ·rcases List.mem_cons.1 hb with rfl | hb
    ·exact hno _ hi6
    ·exact hbx1 b hb
  refine tV ?_
  apply o_ldh rfl rfl ec6 (fun h => by omega) rfl
  refine tV ?_
  apply o_ldh rfl rfl ec7 (fun h => by omega) rfl
  refine tV ?_
  refine oB fun b hb => ?_
  by_cases Hz0 : x.traps[k].1 = y.traps[k].1
  rotate_left
  ·have e : b = true := by rw [hb]; simp [Hz0]
   subst e
   refine tW ?_
   exact no_eq rfl (fun e => Hz0 (by subst e; rfl)) hxx hbb
  have e : b = false := by rw [hb]; simp [Hz0]
  subst e
  refine tV ?_
  apply o_ldh rfl rfl ec6 (fun h => by omega) rfl
  refine tV ?_
  apply o_ldh rfl rfl ec7 (fun h => by omega) rfl
  refine tV ?_
  refine oB fun b hb => ?_
  by_cases Hz1 : x.traps[k].2.1 = y.traps[k].2.1
  rotate_left
  ·have e : b = true := by rw [hb]; simp [Hz1]
   subst e
   refine tW ?_
   exact no_eq rfl (fun e => Hz1 (by subst e; rfl)) hxx hbb
  have e : b = false := by rw [hb]; simp [Hz1]
  subst e
  refine tV ?_
  apply o_ldh rfl rfl ec6 (fun h => by omega) rfl
  refine tV ?_
  apply o_ldh rfl rfl ec7 (fun h => by omega) rfl
  refine tV ?_
  refine oB fun b hb => ?_
  by_cases Hz2 : x.traps[k].2.2.1 = y.traps[k].2.2.1
  rotate_left
  ·have e : b = true := by rw [hb]; simp [Hz2]
   subst e
   refine tW ?_
   exact no_eq rfl (fun e => Hz2 (by subst e; rfl)) hxx hbb
  have e : b = false := by rw [hb]; simp [Hz2]
  subst e
  refine tV ?_
  apply o_ldh rfl rfl ec6 (fun h => by omega) rfl
  refine tV ?_
  apply o_ldh rfl rfl ec7 (fun h => by omega) rfl
  refine tV ?_
  refine oB fun b hb => ?_
  by_cases Hz3 : x.traps[k].2.2.2 = y.traps[k].2.2.2
  rotate_left
  ·have e : b = true := by rw [hb]; simp [Hz3]
   subst e
   refine tW ?_
   exact no_eq rfl (fun e => Hz3 (by subst e; rfl)) hxx hbb
  have e : b = false := by rw [hb]; simp [Hz3]
  subst e
  have he : x.traps[k] = y.traps[k] := Prod.ext Hz0 (Prod.ext Hz1 (Prod.ext Hz2 Hz3))
  refine tW ?_
  rw [w64 (n := (k : Int) + 1) (by omega) (by omega)]
  refine ⟨(k + 1, i7 :: i6 :: bx1), by simp only; omega, tU, rfl, hxx, hbb, by omega, ?_⟩
  simp only
  rw [List.take_add_one, List.take_add_one, ht, List.getElem?_eq_getElem hkl, List.getElem?_eq_getElem hkl2, he]
 have hkl : k < x.code.length := by simpa using hb2
 have hkl2 : k < y.code.length := by omega
 have hS : ∀ id ∈ slIds vc ++ slIds vc', h' id ≠ none := fun id hid => by
  rcases List.mem_append.1 hid with hid | hid
  ·obtain ⟨_, g, _⟩ := hf1
   exact g.live id hid
  ·obtain ⟨_, g, _⟩ := hf2
   exact g.live id hid
 ((with_reducible apply o_nil); (with_reducible apply ssq_norm))
 (with_reducible apply s_condT)
 exact rfl
 (with_reducible apply s_skip)
 (with_reducible apply ssq_norm)
 (with_reducible apply s_seq)
 (with_reducible apply s_block)
 (with_reducible apply s_seq)
 apply s_regX (slIds vc ++ slIds vc') [.A, .B, .A, .A, .B, .A, .B, .A, .A, .B, .C, .C, .A, .A] hS rfl
 apply x_v rfl rfl trivial
 apply x_ldB (v := vc) rfl rfl (.t [I x.args, I x.locals, I x.stack, .bool x.gives, vc, vt] [vc] (0 + 4) rfl) trivial (.one rfl)
 apply x_v rfl rfl trivial
 apply x_iaA rfl rfl rfl hf1 hkl (fun i hi => List.mem_append_left _ hi)
 intro p1 c1 hp1 hm1 hc1 _
 obtain rfl := hc1
 apply x_ldB (v := .agg [I x.code[k].1, I x.code[k].2.1, I x.code[k].2.2.1, I x.code[k].2.2.2]) rfl rfl hp1 hm1 (.many rfl rfl)
 apply x_v rfl rfl trivial
 apply x_ldB (v := vc') rfl rfl (.t [I y.args, I y.locals, I y.stack, .bool y.gives, vc', vt'] [vc'] (0 + 4) rfl) trivial (.one rfl)
 apply x_v rfl rfl trivial
 apply x_iaA rfl rfl rfl hf2 hkl2 (fun i hi => List.mem_append_right _ hi)
 intro p2 c2 hp2 hm2 hc2 _
 obtain rfl := hc2
 apply x_ldB (v := .agg [I y.code[k].1, I y.code[k].2.1, I y.code[k].2.2.1, I y.code[k].2.2.2]) rfl rfl hp2 hm2 (.many rfl rfl)
 apply x_alcC rfl
 intro i6 hi6
 apply x_alcC rfl
 intro i7 hi7
 have hn6 : i6 ∉ slIds vc ++ slIds vc' := fun hc => hS i6 hc hi6
 have hn67 : i6 ≠ i7 := fun hc => by
  have hi7 : upd h' i6 (some (.cells [I 0, I 0, I 0, I 0])) i7 = none := hi7
  rw [← hc, upd_same] at hi7
  cases hi7
 have hi7' : h' i7 = none := by
  have hi7 : upd h' i6 (some (.cells [I 0, I 0, I 0, I 0])) i7 = none := hi7
  rwa [upd_ne (Ne.symm hn67)] at hi7
 have hn7 : i7 ∉ slIds vc ++ slIds vc' := fun hc => hS i7 hc hi7'
 have hxa : Ext h' (upd (upd h' i6 (some (.cells [I 0, I 0, I 0, I 0]))) i7 (some (.cells [I 0, I 0, I 0, I 0]))) := (Ext.upd hi6).trans (.upd hi7)
 have ea6 : (upd (upd h' i6 (some (.cells [I 0, I 0, I 0, I 0]))) i7 (some (.cells [I 0, I 0, I 0, I 0]))) i6 = some (.cells [I 0, I 0, I 0, I 0]) := by rw [upd_ne hn67, upd_same]
 have ea7 : (upd (upd h' i6 (some (.cells [I 0, I 0, I 0, I 0]))) i7 (some (.cells [I 0, I 0, I 0, I 0]))) i7 = some (.cells [I 0, I 0, I 0, I 0]) := upd_same
 show SOpsX _ _ _ _ _ _ _ _ (i7 :: i6 :: bx0) (upd (upd h' i6 (some (.cells [I 0, I 0, I 0, I 0]))) i7 (some (.cells [I 0, I 0, I 0, I 0]))) _
 generalize upd (upd h' i6 (some (.cells [I 0, I 0, I 0, I 0]))) i7 (some (.cells [I 0, I 0, I 0, I 0])) = ka at hxa ea6 ea7 ⊢
 refine x_A (R := fun E' bx' k1 => E' = _ ∧ bx' = i7 :: i6 :: bx0 ∧ k1 = upd (killL (slIds vc ++ slIds vc') ka) i6 (some (.cells [I x.code[k].1, I x.code[k].2.1, I x.code[k].2.2.1, I x.code[k].2.2.2]))) (o_st (v := .agg [I x.code[k].1, I x.code[k].2.1, I x.code[k].2.2.1, I x.code[k].2.2.2]) (cs' := [I x.code[k].1, I x.code[k].2.1, I x.code[k].2.2.1, I x.code[k].2.2.2]) rfl rfl rfl rfl rfl rfl ((kill_out hn6).trans ea6) rfl (o_nil ⟨rfl, rfl, rfl, rfl⟩)) ?_
 rintro _ _ _ ⟨rfl, rfl, rfl⟩ _
 rw [join_upd hn6]
 have hxb : Ext h' (upd ka i6 (some (.cells [I x.code[k].1, I x.code[k].2.1, I x.code[k].2.2.1, I x.code[k].2.2.2]))) := ext_set hxa hi6
 have eb6 : upd ka i6 (some (.cells [I x.code[k].1, I x.code[k].2.1, I x.code[k].2.2.1, I x.code[k].2.2.2])) i6 = some (.cells [I x.code[k].1, I x.code[k].2.1, I x.code[k].2.2.1, I x.code[k].2.2.2]) := upd_same
 have eb7 : upd ka i6 (some (.cells [I x.code[k].1, I x.code[k].2.1, I x.code[k].2.2.1, I x.code[k].2.2.2])) i7 = _ := (upd_ne (Ne.symm hn67)).trans ea7
 generalize upd ka i6 (some (.cells [I x.code[k].1, I x.code[k].2.1, I x.code[k].2.2.1, I x.code[k].2.2.2])) = kb at hxb eb6 eb7 ⊢
 refine x_A (R := fun E' bx' k1 => E' = _ ∧ bx' = i7 :: i6 :: bx0 ∧ k1 = upd (killL (slIds vc ++ slIds vc') kb) i7 (some (.cells [I y.code[k].1, I y.code[k].2.1, I y.code[k].2.2.1, I y.code[k].2.2.2]))) (o_st (v := .agg [I y.code[k].1, I y.code[k].2.1, I y.code[k].2.2.1, I y.code[k].2.2.2]) (cs' := [I y.code[k].1, I y.code[k].2.1, I y.code[k].2.2.1, I y.code[k].2.2.2]) rfl rfl rfl rfl rfl rfl ((kill_out hn7).trans eb7) rfl (o_nil ⟨rfl, rfl, rfl, rfl⟩)) ?_
 rintro _ _ _ ⟨rfl, rfl, rfl⟩ _
 rw [join_upd hn7]
 have hxc : Ext h' (upd kb i7 (some (.cells [I y.code[k].1, I y.code[k].2.1, I y.code[k].2.2.1, I y.code[k].2.2.2]))) := ext_set hxb hi7'
 have ec7 : upd kb i7 (some (.cells [I y.code[k].1, I y.code[k].2.1, I y.code[k].2.2.1, I y.code[k].2.2.2])) i7 = some (.cells [I y.code[k].1, I y.code[k].2.1, I y.code[k].2.2.1, I y.code[k].2.2.2]) := upd_same
 have ec6 : upd kb i7 (some (.cells [I y.code[k].1, I y.code[k].2.1, I y.code[k].2.2.1, I y.code[k].2.2.2])) i6 = _ := (upd_ne hn67).trans eb6
 generalize upd kb i7 (some (.cells [I y.code[k].1, I y.code[k].2.1, I y.code[k].2.2.1, I y.code[k].2.2.2])) = kc at hxc ec6 ec7 ⊢
 apply x_nil
 have hxx := hx1.trans hxc
 have hbb : ∀ b ∈ i7 :: i6 :: bx0, h b = none := fun b hb => by
  have hno : ∀ j, h' j = none → h j = none := fun j hj => by
   cases e : h j with
   | none => rfl
   | some o => rw [hx1 _ _ e] at hj; cases hj
  rcases List.mem_cons.1 hb with rfl | hb
  ·exact hno _ hi7'
  ·rcases List.mem_cons.1 hb with rfl | hb
   ·exact hno _ hi6
   ·exact hbx0 b hb
 refine tV ?_
 apply o_ldh rfl rfl ec6 (fun h => by omega) rfl
 refine tV ?_
 apply o_ldh rfl rfl ec7 (fun h => by omega) rfl
 refine tV ?_
 refine oB fun b hb => ?_
 by_cases Hz0 : x.code[k].1 = y.code[k].1
 rotate_left
 ·have e : b = true := by rw [hb]; simp [Hz0]
  subst e
  refine tW ?_
  exact no_eq rfl (fun e => Hz0 (by subst e; rfl)) hxx hbb
 have e : b = false := by rw [hb]; simp [Hz0]
 subst e
 refine tV ?_
 apply o_ldh rfl rfl ec6 (fun h => by omega) rfl
 refine tV ?_
 apply o_ldh rfl rfl ec7 (fun h => by omega) rfl
 refine tV ?_
 refine oB fun b hb => ?_
 by_cases Hz1 : x.code[k].2.1 = y.code[k].2.1
 rotate_left
 ·have e : b = true := by rw [hb]; simp [Hz1]
  subst e
  refine tW ?_
  exact no_eq rfl (fun e => Hz1 (by subst e; rfl)) hxx hbb
 have e : b = false := by rw [hb]; simp [Hz1]
 subst e
 refine tV ?_
 apply o_ldh rfl rfl ec6 (fun h => by omega) rfl
 refine tV ?_
 apply o_ldh rfl rfl ec7 (fun h => by omega) rfl
 refine tV ?_
 refine oB fun b hb => ?_
 by_cases Hz2 : x.code[k].2.2.1 = y.code[k].2.2.1
 rotate_left
 ·have e : b = true := by rw [hb]; simp [Hz2]
  subst e
  refine tW ?_
  exact no_eq rfl (fun e => Hz2 (by subst e; rfl)) hxx hbb
 have e : b = false := by rw [hb]; simp [Hz2]
 subst e
 refine tV ?_
 apply o_ldh rfl rfl ec6 (fun h => by omega) rfl
 refine tV ?_
 apply o_ldh rfl rfl ec7 (fun h => by omega) rfl
 refine tV ?_
 refine oB fun b hb => ?_
 by_cases Hz3 : x.code[k].2.2.2 = y.code[k].2.2.2
 rotate_left
 ·have e : b = true := by rw [hb]; simp [Hz3]
  subst e
  refine tW ?_
  exact no_eq rfl (fun e => Hz3 (by subst e; rfl)) hxx hbb
 have e : b = false := by rw [hb]; simp [Hz3]
 subst e
 have he : x.code[k] = y.code[k] := Prod.ext Hz0 (Prod.ext Hz1 (Prod.ext Hz2 Hz3))
 refine tW ?_
 rw [w64 (n := (k : Int) + 1) (by omega) (by omega)]
 refine ⟨(k + 1, i7 :: i6 :: bx0), by simp only; omega, tU, rfl, hxx, hbb, by omega, ?_⟩
 simp only
 rw [List.take_add_one, List.take_add_one, ht, List.getElem?_eq_getElem hkl, List.getElem?_eq_getElem hkl2, he]
theorem p18 {h : Heap} {c d : List AV} {x y : Image} (hc : RImg h c x) (hd : RImg h d y) (wx : x.WF) (wy : y.WF) : Looks Tryz.prog ann 18 [.agg c, .agg d] h (.bool (decide (x = y))) := by
 have hone := hc.one
 have hone2 := hd.one
 obtain ⟨vc, vm, vg, vw, vr, vs, vf, rfl, r1, r2, r3, r4, r5, r6, r7⟩ := hc
 obtain ⟨vc', vm', vg', vw', vr', vs', vf', rfl, q1, q2, q3, q4, q5, q6, q7⟩ := hd
 refine s_look_of rfl Tryz.func18 (frc (by with_unfolding_all rfl)) rfl ?_
 refine tS ?_
 apply o_val rfl rfl hone
 apply o_val rfl rfl hone2
 have hx0 : Ext h h := .refl
 refine tV ?_
 apply o_lenS rfl rfl (r1.mono RCls.mono hx0)
 refine tV ?_
 apply o_lenS rfl rfl (q1.mono RCls.mono hx0)
 refine tV ?_
 refine oB fun b hb => ?_
 by_cases H0 : x.classes.length = y.classes.length
 rotate_left
 ·have e : b = true := by rw [hb]; simp; omega
  subst e
  refine tW ?_
  exact no_eq rfl (fun e => H0 (congrArg (fun z => z.classes.length) e)) hx0 (by simp)
 have e : b = false := by rw [hb]; simp; omega
 subst e
 refine tV ?_
 apply o_lenS rfl rfl (r2.mono RMth.mono hx0)
 refine tV ?_
 apply o_lenS rfl rfl (q2.mono RMth.mono hx0)
 refine tV ?_
 refine oB fun b hb => ?_
 by_cases H1 : x.methods.length = y.methods.length
 rotate_left
 ·have e : b = true := by rw [hb]; simp; omega
  subst e
  refine tW ?_
  exact no_eq rfl (fun e => H1 (congrArg (fun z => z.methods.length) e)) hx0 (by simp)
 have e : b = false := by rw [hb]; simp; omega
 subst e
 refine tV ?_
 refine oB fun b hb => ?_
 by_cases H2 : x.entry = y.entry
 rotate_left
 ·have e : b = true := by rw [hb]; simp [H2]
  subst e
  refine tW ?_
  exact no_eq rfl (fun e => H2 (congrArg Image.entry e)) hx0 (by simp)
 have e : b = false := by rw [hb]; simp [H2]
 subst e
 refine tV ?_
 refine oB fun b hb => ?_
 by_cases H3 : x.need = y.need
 rotate_left
 ·have e : b = true := by rw [hb]; simp [H3]
  subst e
  refine tW ?_
  exact no_eq rfl (fun e => H3 (congrArg Image.need e)) hx0 (by simp)
 have e : b = false := by rw [hb]; simp [H3]
 subst e
 refine tV ?_
 apply o_hcall rfl rfl rfl rfl (p62 (r3.mono RN.mono hx0) (q3.mono RN.mono hx0) wx.given.1 wy.given.1).go
 rintro _ k1 ⟨rfl, hy1⟩
 have hx1 := hx0.trans hy1
 clear hy1
 by_cases H4 : x.given = y.given
 rotate_left
 ·rw [decide_eq_false H4]
  refine tw ?_
  apply o_val rfl rfl trivial
  refine tW ?_
  exact no_eq rfl (fun e => H4 (congrArg Image.given e)) hx1 (by simp)
 rw [decide_eq_true H4]
 refine tw ?_
 apply o_val rfl rfl trivial
 refine tV ?_
 apply o_hcall rfl rfl rfl rfl (p63 (r4.mono RN.mono hx1) (q4.mono RN.mono hx1) wx.words.1 wy.words.1).go
 rintro _ k2 ⟨rfl, hy2⟩
 have hx2 := hx1.trans hy2
 clear hy2
 by_cases H5 : x.words = y.words
 rotate_left
 ·rw [decide_eq_false H5]
  refine tw ?_
  apply o_val rfl rfl trivial
  refine tW ?_
  exact no_eq rfl (fun e => H5 (congrArg Image.words e)) hx2 (by simp)
 rw [decide_eq_true H5]
 refine tw ?_
 apply o_val rfl rfl trivial
 refine tV ?_
 apply o_hcall rfl rfl rfl rfl (p62 (r5.mono RN.mono hx2) (q5.mono RN.mono hx2) wx.rel.1 wy.rel.1).go
 rintro _ k3 ⟨rfl, hy3⟩
 have hx3 := hx2.trans hy3
 clear hy3
 by_cases H6 : x.rel = y.rel
 rotate_left
 ·rw [decide_eq_false H6]
  refine tw ?_
  apply o_val rfl rfl trivial
  refine tW ?_
  exact no_eq rfl (fun e => H6 (congrArg Image.rel e)) hx3 (by simp)
 rw [decide_eq_true H6]
 refine tw ?_
 apply o_val rfl rfl trivial
 refine tV ?_
 apply o_hcall rfl rfl rfl rfl (p63 (r6.mono RN.mono hx3) (q6.mono RN.mono hx3) wx.stat.1 wy.stat.1).go
 rintro _ k4 ⟨rfl, hy4⟩
 have hx4 := hx3.trans hy4
 clear hy4
 by_cases H7 : x.stat = y.stat
 rotate_left
 ·rw [decide_eq_false H7]
  refine tw ?_
  apply o_val rfl rfl trivial
  refine tW ?_
  exact no_eq rfl (fun e => H7 (congrArg Image.stat e)) hx4 (by simp)
 rw [decide_eq_true H7]
 refine tw ?_
 apply o_val rfl rfl trivial
 refine tV ?_
 apply o_hcall rfl rfl rfl rfl (p64 (r7.mono RB.mono hx4) (q7.mono RB.mono hx4) wx.statref wy.statref).go
 rintro _ k5 ⟨rfl, hy5⟩
 have hx5 := hx4.trans hy5
 clear hy5
 by_cases H8 : x.statref = y.statref
 rotate_left
 ·rw [decide_eq_false H8]
  refine tw ?_
  apply o_val rfl rfl trivial
  refine tW ?_
  exact no_eq rfl (fun e => H8 (congrArg Image.statref e)) hx5 (by simp)
 rw [decide_eq_true H8]
 refine tw ?_
 apply o_val rfl rfl trivial
 have wclasses : Len x.classes := wx.classes.1
 unfold Len at wclasses
 refine tV ?_
 refine s_loop (fun k : Nat => [(2, .tptr [vc, vm, I x.entry, I x.need, vg, vw, vr, vs, vf] 0), (3, .tptr [vc', vm', I y.entry, I y.need, vg', vw', vr', vs', vf'] 0), (5, .int .i64 (k : Int))]) (fun k h' => Ext h h' ∧ k ≤ x.classes.length ∧ x.classes.take k = y.classes.take k) (fun k => x.classes.length - k) 0
  tU ⟨hx5, Nat.zero_le _, by simp⟩ ?_
 rintro k h' ⟨hy0, hk, ht⟩
 have hf1 := r1.mono RCls.mono hy0
 have hf2 := q1.mono RCls.mono hy0
 refine tV ?_
 apply o_lenS rfl rfl hf1
 refine oB fun b2 hb2 => ?_
 cases b2
 case false =>
  have hkl : k = x.classes.length := by simp at hb2; omega
  have he0 : x.classes = y.classes := by
   rw [hkl, List.take_length] at ht
   rw [ht, H0, List.take_length]
  clear hf1 hf2 hb2 hk ht hkl
  have wmethods : Len x.methods := wx.methods.1
  unfold Len at wmethods
  refine tV ?_
  refine s_loop (fun k : Nat => [(2, .tptr [vc, vm, I x.entry, I x.need, vg, vw, vr, vs, vf] 0), (3, .tptr [vc', vm', I y.entry, I y.need, vg', vw', vr', vs', vf'] 0), (6, .int .i64 (k : Int))]) (fun k h' => Ext h h' ∧ k ≤ x.methods.length ∧ x.methods.take k = y.methods.take k) (fun k => x.methods.length - k) 0
   tU ⟨hy0, Nat.zero_le _, by simp⟩ ?_
  rintro k h' ⟨hy1, hk, ht⟩
  have hf1 := r2.mono RMth.mono hy1
  have hf2 := q2.mono RMth.mono hy1
  refine tV ?_
  apply o_lenS rfl rfl hf1
  refine oB fun b2 hb2 => ?_
  cases b2
  case false =>
   have hkl : k = x.methods.length := by simp at hb2; omega
   have he1 : x.methods = y.methods := by
    rw [hkl, List.take_length] at ht
    rw [ht, H1, List.take_length]
   clear hf1 hf2 hb2 hk ht hkl
   refine tW ?_
   exact yes_eq rfl (img_ext he0 he1 H2 H3 H4 H5 H6 H7 H8) hy1 (by simp)
  have hkl : k < x.methods.length := by simpa using hb2
  have hkl2 : k < y.methods.length := by omega
  refine tV ?_
  apply o_iaS rfl rfl rfl hf1 hkl
  intro p1 c1 hp1 hc1 g1
  apply o_ldVn rfl rfl hp1 g1 (fun _ => .refl)
  refine tV ?_
  apply o_iaS rfl rfl rfl hf2 hkl2
  intro p2 c2 hp2 hc2 g2
  apply o_ldVn rfl rfl hp2 g2 (fun _ => .refl)
  apply o_hcall rfl rfl rfl rfl (p66 hc1 hc2 (wx.methods.2 _ (List.getElem_mem hkl)) (wy.methods.2 _ (List.getElem_mem hkl2))).go
  rintro _ k1 ⟨rfl, hyy⟩
  have hxx := hy1.trans hyy
  apply o_val rfl rfl trivial
  by_cases he : x.methods[k] = y.methods[k]
  rotate_left
  ·rw [decide_eq_false he]
   refine tW ?_
   exact no_eq rfl (fun e => he (by subst e; rfl)) hxx (by simp)
  rw [decide_eq_true he]
  refine tW ?_
  rw [w64 (n := (k : Int) + 1) (by omega) (by omega)]
  refine ⟨k + 1, by simp only; omega, tU, rfl, hxx, by omega, ?_⟩
  rw [List.take_add_one, List.take_add_one, ht, List.getElem?_eq_getElem hkl, List.getElem?_eq_getElem hkl2, he]
 have hkl : k < x.classes.length := by simpa using hb2
 have hkl2 : k < y.classes.length := by omega
 refine tV ?_
 apply o_iaS rfl rfl rfl hf1 hkl
 intro p1 c1 hp1 hc1 g1
 apply o_ldVn rfl rfl hp1 g1 (fun _ => .refl)
 refine tV ?_
 apply o_iaS rfl rfl rfl hf2 hkl2
 intro p2 c2 hp2 hc2 g2
 apply o_ldVn rfl rfl hp2 g2 (fun _ => .refl)
 apply o_hcall rfl rfl rfl rfl (p65 hc1 hc2 (wx.classes.2 _ (List.getElem_mem hkl)) (wy.classes.2 _ (List.getElem_mem hkl2))).go
 rintro _ k1 ⟨rfl, hyy⟩
 have hxx := hy0.trans hyy
 apply o_val rfl rfl trivial
 by_cases he : x.classes[k] = y.classes[k]
 rotate_left
 ·rw [decide_eq_false he]
  refine tW ?_
  exact no_eq rfl (fun e => he (by subst e; rfl)) hxx (by simp)
 rw [decide_eq_true he]
 refine tW ?_
 rw [w64 (n := (k : Int) + 1) (by omega) (by omega)]
 refine ⟨k + 1, by simp only; omega, tU, rfl, hxx, by omega, ?_⟩
 rw [List.take_add_one, List.take_add_one, ht, List.getElem?_eq_getElem hkl, List.getElem?_eq_getElem hkl2, he]
end Go.Proofs
end
