import Derived.Test.YtmnnmgfjlokmkaaGreatAbsTac
import Derived.Test.YtmnnmgfjlokmkaaGreatImEncode
open Go Go.Abs Go.Proofs.SlimCode Go.Img
set_option maxRecDepth 100000
namespace Go.Proofs
end Go.Proofs
namespace Go.Img
structure Cls.Wide (c : Cls) : Prop where
 name : c.name.length ≤ 9223372036854775807
 super : I64 c.super
 init : I64 c.init
 array : I64 c.array
 elem : I64 c.elem
 refs : Len c.refs
 subs : Len c.subs ∧ ∀ n ∈ c.subs, I64 n
 slots : Len c.slots ∧ ∀ n ∈ c.slots, I64 n
 faces : Len c.faces ∧ ∀ p ∈ c.faces, I64 p.1 ∧ I64 p.2
structure Image.Wide (m : Image) : Prop where
 classes : Len m.classes ∧ ∀ c ∈ m.classes, c.Wide
 methods : Len m.methods ∧ ∀ c ∈ m.methods, c.WF
 entry : I64 m.entry
 need : I64 m.need
 given : Len m.given ∧ ∀ n ∈ m.given, I64 n
 words : Len m.words ∧ ∀ n ∈ m.words, I32 n
 rel : Len m.rel ∧ ∀ n ∈ m.rel, I64 n
 stat : Len m.stat ∧ ∀ n ∈ m.stat, I32 n
 statref : Len m.statref
end Go.Img
namespace Go.Proofs
theorem p34 {h : Heap} {s : B} (hl : s.length ≤ 9223372036854775807) : Looks Tryz.prog ann 34 [.str s, .int .i64 12] h (.str (s.take 12)) := by
 refine s_look_of rfl Tryz.func34 (frc (by with_unfolding_all rfl)) rfl ?_
 refine tV ?_
 (refine tG ?_; refine oB fun b hb => ?_; cases b)
 ·have : s.take 12 = s := List.take_of_length_le (by simp at hb; omega)
  rw [this]
  refine tW ?_
  (first | apply lret_ret | apply lret_norm)
  ·exact rfl
  ·exact rfl
  ·exact rfl
  ·exact .refl
  ·simp
 ·have : 12 < s.length := by simp at hb; omega
  refine tV ?_
  apply o_val rfl rfl ⟨Int.le_refl 0, by decide, by omega⟩
  refine tW ?_
  (first | apply lret_ret | apply lret_norm)
  ·exact rfl
  ·exact rfl
  ·exact rfl
  ·exact .refl
  ·simp
theorem min_nat (a b : Nat) : AV.int .i64 (min ((b : Nat) : Int) ((a : Nat) : Int)) = .int .i64 ((min b a : Nat) : Int) := by
 congr 1
 omega
theorem sl_cells {α : Type} {R : Heap → List AV → α → Prop} {s : Nat} {h : Heap} {v : AV} {l : List α} (H : Sl R s h v l) (h1 : ∀ c a, R h c a → c.all AV.one = true) : ∃ cs, VSl h s v cs l.length ∧ Chunks (R h) s cs l ∧ cs.all AV.one = true := by
 obtain ⟨cs, a, b⟩ := H
 refine ⟨cs, a, b, ?_⟩
 clear a
 induction b with
 | nil => rfl
 | cons hl ha H ih => rw [List.all_append, h1 _ _ ha, ih]; rfl
theorem p35 {g h : Heap} {v : AV} {l : List Int} {n : Nat} (hg : Ext g h) (hv : Sl (RN .i64) 1 g v l) (hn : n ≤ 1000) (hl : l.length ≤ 9223372036854775807) :
  HCallC Tryz.prog ann 35 [v, .int .i64 (n : Int)] h fun w h' => ∃ cs, OSl h 1 w cs (l.take n).length h' ∧ Chunks (RN .i64 h) 1 cs (l.take n) := by
 have hv := hv.mono RN.mono hg
 refine s_call_x rfl Tryz.func35 (frc (by with_unfolding_all rfl)) rfl ?_
 refine tV ?_
 apply o_lenG rfl rfl .refl hv
 refine tV ?_
 apply o_as (w := .int .i64 ((min l.length n : Nat) : Int)) rfl rfl trivial (min_nat _ _)
 apply o_sltS (a := 0) (b := min l.length n) rfl rfl hv rfl rfl (Nat.zero_le _) (Nat.min_le_left _ _)
 intro w hw
 have hw2 : Sl (RN .i64) 1 h w (l.take n) := by
  have e : (l.take (min l.length n)).drop 0 = l.take n := by rw [List.drop_zero, List.take_eq_take_iff]; omega
  rwa [e] at hw
 obtain ⟨cs, c1, c2, c3⟩ := sl_cells hw2 (fun c a hc => by rw [hc]; rfl)
 have hlen : (l.take n).length ≤ 1000 := by rw [List.length_take]; omega
 apply o_appO (hb := h) (old := []) (l := 0) (new := cs) rfl rfl rfl rfl (OSl.nil .refl) (srcOf_V c1) c1.len c3 (by omega)
 intro v2 h2 H2 _
 rw [List.nil_append, Nat.zero_add] at H2
 refine tW ?_
 (first | apply hx_ret | apply hx_norm)
 ·exact rfl
 ·exact rfl
 ·rw [killL_nil]
  exact ⟨cs, H2, c2⟩
 ·intro ht
  left
  refine ⟨cs, ?_, c2⟩
  show OSl h 1 v2 cs _ h
  rcases H2.own with ⟨rfl, h3, h4⟩ | ⟨i, rfl, _⟩
  ·rw [h3, h4]
   exact .nil .refl
  ·cases ht
structure Cls.Small (c : Cls) : Prop where
 name : c.name.length ≤ 12
 refs : c.refs.length ≤ 11
 subs : c.subs.length ≤ 21
 slots : c.slots.length ≤ 11
 faces : c.faces.length ≤ 7
structure Mth.Small (m : Mth) : Prop where
 code : m.code.length ≤ 31
 traps : m.traps.length ≤ 4
structure Image.Small (m : Image) : Prop where
 classes : m.classes.length ≤ 20 ∧ ∀ c ∈ m.classes, Cls.Small c
 methods : m.methods.length ≤ 12 ∧ ∀ c ∈ m.methods, Mth.Small c
 given : m.given.length ≤ 12
 words : m.words.length ≤ 201
 rel : m.rel.length ≤ 60
 stat : m.stat.length ≤ 20
 statref : m.statref.length ≤ 21
theorem eList_le {α : Type} {e : α → B} {l : List α} {k n : Nat} (h : ∀ a ∈ l, (e a).length ≤ k) (hl : l.length ≤ n) (hn : n ≤ 1000) : (eList e l).length ≤ 10 + n * k := by
 unfold eList
 rw [List.length_append]
 have h1 := put_len (n := l.length) (by unfold I64; omega)
 have h2 : (l.flatMap e).length ≤ l.length * k := by
  clear hl h1
  induction l with
  | nil => simp
  | cons a l ih =>
   rw [List.flatMap_cons, List.length_append, List.length_cons, Nat.add_mul]
   have := h a (by simp)
   have := ih (fun b hb => h b (by simp [hb]))
   omega
 have h3 : l.length * k ≤ n * k := Nat.mul_le_mul_right k hl
 omega
theorem eTruth_le (t : Bool) : (eTruth t).length ≤ 10 := put_len (by unfold I64; split <;> omega)
theorem eFour_le {p : Four} (h : F64 p) : (eFour p).length ≤ 40 := by
 unfold eFour
 simp only [List.length_append]
 have := put_len h.1
 have := put_len h.2.1
 have := put_len h.2.2.1
 have := put_len h.2.2.2
 omega
theorem eCls_le {c : Cls} (hw : c.WF) (hs : Cls.Small c) : (eCls c).length ≤ 700 := by
 unfold eCls eText
 simp only [List.length_append]
 have := hs.name
 have := put_len (n := c.name.length) (by unfold I64; omega)
 have := put_len hw.super
 have := put_len hw.init
 have := put_len hw.array
 have := put_len hw.elem
 have := eTruth_le c.thrown
 have := eList_le (e := eTruth) (k := 10) (fun a _ => eTruth_le a) hs.refs (by decide)
 have := eList_le (e := put) (k := 10) (fun a ha => put_len (hw.subs.2 a ha)) hs.subs (by decide)
 have := eList_le (e := put) (k := 10) (fun a ha => put_len (hw.slots.2 a ha)) hs.slots (by decide)
 have := eList_le (e := ePair) (k := 20) (fun a ha => by
  unfold ePair
  rw [List.length_append]
  have := put_len (hw.faces.2 a ha).1
  have := put_len (hw.faces.2 a ha).2
  omega) hs.faces (by decide)
 omega
theorem eMth_le {m : Mth} (hw : m.WF) (hs : Mth.Small m) : (eMth m).length ≤ 1500 := by
 unfold eMth
 simp only [List.length_append]
 have := put_len hw.args
 have := put_len hw.locals
 have := put_len hw.stack
 have := eTruth_le m.gives
 have := eList_le (e := eFour) (k := 40) (fun a ha => eFour_le (hw.code.2 a ha)) hs.code (by decide)
 have := eList_le (e := eFour) (k := 40) (fun a ha => eFour_le (hw.traps.2 a ha)) hs.traps (by decide)
 omega
theorem i64_of_32 {n : Int} (h : I32 n) : I64 n := by unfold I32 at h; unfold I64; omega
theorem small_len {m : Image} (hw : m.WF) (hs : Image.Small m) : (Img.body m).length ≤ 50000 := by
 unfold Img.body
 simp only [List.length_append]
 have := eList_le (e := eCls) (k := 700) (fun a ha => eCls_le (hw.classes.2 a ha) (hs.classes.2 a ha)) hs.classes.1 (by decide)
 have := eList_le (e := eMth) (k := 1500) (fun a ha => eMth_le (hw.methods.2 a ha) (hs.methods.2 a ha)) hs.methods.1 (by decide)
 have := put_len hw.entry
 have := put_len hw.need
 have := eList_le (e := put) (k := 10) (fun a ha => put_len (hw.given.2 a ha)) hs.given (by decide)
 have := eList_le (e := put) (k := 10) (fun a ha => put_len (i64_of_32 (hw.words.2 a ha))) hs.words (by decide)
 have := eList_le (e := put) (k := 10) (fun a ha => put_len (hw.rel.2 a ha)) hs.rel (by decide)
 have := eList_le (e := put) (k := 10) (fun a ha => put_len (i64_of_32 (hw.stat.2 a ha))) hs.stat (by decide)
 have := eList_le (e := eTruth) (k := 10) (fun a _ => eTruth_le a) hs.statref (by decide)
 omega
end Go.Proofs
