import Derived.Test.YtmnnmgfjlokmkaaGreatAbsTac
namespace Go.Abs
def Ext (h h' : Heap) : Prop := ∀ id o, h id = some o → h' id = some o
theorem Ext.refl {h : Heap} : Ext h h := fun _ _ e => e
theorem Ext.trans {h1 h2 h3 : Heap} (a : Ext h1 h2) (b : Ext h2 h3) : Ext h1 h3 := fun id o e => b id o (a id o e)
theorem Ext.upd {h : Heap} {i : Nat} {o : AObj} (hi : h i = none) : Ext h (upd h i (some o)) := fun id o' e => by
 rw [upd_ne (fun hid => by rw [hid, hi] at e; cases e)]
 exact e
inductive VSl (h : Heap) (s : Nat) : AV → List AV → Nat → Prop where
 | nil : VSl h s (.nil .sl) [] 0
 | tsl (cs : List AV) (n : Nat) (hl : cs.length = n * s) : VSl h s (.tsl cs n) cs n
 | sl (id off n : Nat) (os cs : List AV) (hi : h id = some (.cells os)) (hc : sliceL os off (n * s) = some cs) : VSl h s (.sl id off n s) cs n
inductive VPtr (h : Heap) : AV → List AV → Prop where
 | t (os cs : List AV) (off : Nat) (hc : sliceL os off cs.length = some cs) : VPtr h (.tptr os off) cs
 | p (id off : Nat) (os cs : List AV) (hi : h id = some (.cells os)) (hc : sliceL os off cs.length = some cs) : VPtr h (.ptr id off) cs
theorem VSl.mono {h h' : Heap} (hx : Ext h h') {s n : Nat} {v : AV} {cs : List AV} (H : VSl h s v cs n) : VSl h' s v cs n := by
 cases H with
 | nil => exact .nil
 | tsl _ _ hl => exact .tsl _ _ hl
 | sl id off _ os _ hi hc => exact .sl id off _ os _ (hx _ _ hi) hc
theorem VPtr.mono {h h' : Heap} (hx : Ext h h') {v : AV} {cs : List AV} (H : VPtr h v cs) : VPtr h' v cs := by
 cases H with
 | t os _ off hc => exact .t os _ off hc
 | p id off os _ hi hc => exact .p id off os _ (hx _ _ hi) hc
theorem slL_len {α : Type} {l r : List α} {o n : Nat} (h : sliceL l o n = some r) : r.length = n ∧ o + n ≤ l.length ∧ r = (l.drop o).take n := by
 unfold sliceL at h
 split at h
 ·rename_i hl
  simp only [Option.some.injEq] at h
  subst h
  refine ⟨?_, hl, rfl⟩
  rw [List.length_take, List.length_drop]
  omega
 ·cases h
theorem sliceL_of {α : Type} {l : List α} {o n : Nat} (h : o + n ≤ l.length) : sliceL l o n = some ((l.drop o).take n) := by
 unfold sliceL
 rw [if_pos h]
theorem sliceL_sub {α : Type} {l r t : List α} {o n a b : Nat} (h : sliceL l o n = some r) (g : sliceL r a b = some t) : sliceL l (o + a) b = some t := by
 obtain ⟨h1, h2, rfl⟩ := slL_len h
 obtain ⟨g1, g2, rfl⟩ := slL_len g
 rw [sliceL_of (by omega)]
 congr 1
 rw [List.drop_take, List.drop_drop, List.take_take, Nat.min_eq_left (by omega)]
theorem VSl.len {h : Heap} {s n : Nat} {v : AV} {cs : List AV} (H : VSl h s v cs n) : cs.length = n * s := by
 cases H with
 | nil => simp
 | tsl _ _ hl => exact hl
 | sl id off _ os _ hi hc => exact (slL_len hc).1
theorem VSl.one {h : Heap} {s n : Nat} {v : AV} {cs : List AV} (H : VSl h s v cs n) : v.one = true := by
 cases H <;> rfl
theorem VPtr.one {h : Heap} {v : AV} {cs : List AV} (H : VPtr h v cs) : v.one = true := by
 cases H <;> rfl
theorem VSl.of_has {hb h : Heap} {s n : Nat} {v : AV} {cs : List AV} (H : HasSl hb s v cs n h) : VSl h s v cs n := by
 cases H with
 | nil => exact .nil
 | sl i _ _ hi hl => exact .sl i 0 _ cs _ upd_same (sliceL_all hl)
theorem HasSl.ext {hb h : Heap} {s n : Nat} {v : AV} {cs : List AV} (H : HasSl hb s v cs n h) : Ext hb h := by
 cases H with
 | nil => exact .refl
 | sl i _ _ hi hl => exact .upd hi
theorem VPtr.part {h : Heap} {p : AV} {cs t : List AV} (H : VPtr h p cs) {a : Nat} (g : sliceL cs a t.length = some t) : ∃ p', addA p a = some p' ∧ VPtr h p' t := by
 cases H with
 | t os _ off hc => exact ⟨_, rfl, .t os t (off + a) (sliceL_sub hc g)⟩
 | p id off os _ hi hc => exact ⟨_, rfl, .p id (off + a) os t hi (sliceL_sub hc g)⟩
section
variable {P : Program} {A : Ann} {f nt : Nat} {E : Env} {bx : List Nat} {h : Heap} {Q : AX → Env → List Nat → Heap → Prop} {h0 : Heap} {q : Nat}
theorem o_lenV {d s n : Nat} {x : SX} {r : List SO} {v : AV} {cs : List AV} (hlt : (decide (d < nt)) = true) (hx : ev (lk E) x = some v) (hv : VSl h s v cs n) (H : SOps P A f nt h0 (q - 1) r ((d, .int .i64 n) :: E) bx h Q) :
  SOps P A f nt h0 q (⟨some d, none, .len x none⟩ :: r) E bx h Q := by
 cases hv with
 | nil => exact o_val (p := True) hlt (by simp only [sv, hx]; rfl) trivial H
 | tsl _ _ hl => exact o_val (p := True) hlt (by simp only [sv, hx]) trivial H
 | sl _ _ _ _ _ _ _ => exact o_val (p := True) hlt (by simp only [sv, hx]) trivial H
theorem o_iaV {d s n : Nat} {x i : SX} {r : List SO} {v : AV} {cs : List AV} {k : IntKind} {z : Int} (hlt : (decide (d < nt)) = true) (hx : ev (lk E) x = some v) (hi : ev (lk E) i = some (.int k z)) (hv : VSl h s v cs n) (hz : 0 ≤ z) (hz' : z < n)
  (H : ∀ p, VPtr h p ((cs.drop (z.toNat * s)).take s) → SOps P A f nt h0 (q - 1) r ((d, p) :: E) bx h Q) : SOps P A f nt h0 q (⟨some d, none, .ia x i none s⟩ :: r) E bx h Q := by
 have hl := hv.len
 have hb : z.toNat * s + s ≤ n * s := by
  have : (z.toNat + 1) * s ≤ n * s := Nat.mul_le_mul_right s (by omega)
  rw [Nat.add_mul] at this
  omega
 have hsl : sliceL cs (z.toNat * s) s = some ((cs.drop (z.toNat * s)).take s) := sliceL_of (by omega)
 have hln := (slL_len hsl).1
 cases hv with
 | nil => omega
 | tsl _ _ _ => exact o_val (p := 0 ≤ z ∧ z < n) (v := .tptr cs (z.toNat * s)) hlt (by simp only [sv, hx, hi]) ⟨hz, hz'⟩ (H _ (.t _ _ _ (by rw [hln]; exact hsl)))
 | sl id off _ os _ hid hc => exact o_val (p := s = s ∧ 0 ≤ z ∧ z < n) (v := .ptr id (off + z.toNat * s)) hlt (by simp only [sv, hx, hi]) ⟨rfl, hz, hz'⟩ (H _ (.p _ _ os _ hid (by rw [hln]; exact sliceL_sub hc hsl)))
theorem o_faV {d o : Nat} {x : SX} {r : List SO} {p : AV} {cs : List AV} (t : List AV) (hlt : (decide (d < nt)) = true) (hx : ev (lk E) x = some p) (hp : VPtr h p cs) (ht : sliceL cs o t.length = some t)
  (H : ∀ p, VPtr h p t → SOps P A f nt h0 (q - 1) r ((d, p) :: E) bx h Q) : SOps P A f nt h0 q (⟨some d, none, .fa x o⟩ :: r) E bx h Q := by
 obtain ⟨p', e, hp'⟩ := hp.part ht
 cases hp with
 | t os _ off hc =>
  simp only [addA, Option.some.injEq] at e
  subst e
  exact o_val (p := True) hlt (by simp only [sv, hx]) trivial (H _ hp')
 | p id off os _ hid hc =>
  simp only [addA, Option.some.injEq] at e
  subst e
  exact o_val (p := True) hlt (by simp only [sv, hx]) trivial (H _ hp')
theorem sliceL_head {α : Type} {l r : List α} {v : α} {o : Nat} (h : sliceL l o (v :: r).length = some (v :: r)) : l[o]? = some v := by
 obtain ⟨_, h2, h3⟩ := slL_len h
 have : ((l.drop o).take (v :: r).length)[0]? = some v := by rw [← h3]; rfl
 rw [List.getElem?_take, List.getElem?_drop] at this
 simpa using this
theorem o_ldV {d : Nat} {x : SX} {r : List SO} {p v : AV} {cs : List AV} (hlt : (decide (d < nt)) = true) (hx : ev (lk E) x = some p) (hp : VPtr h p (v :: cs)) (hq : 0 < q → Ext h h0)
  (H : SOps P A f nt h0 (q - 1) r ((d, v) :: E) bx h Q) : SOps P A f nt h0 q (⟨some d, none, .ld x none⟩ :: r) E bx h Q := by
 cases hp with
 | t os _ off hc => exact o_val (p := True) hlt (by simp only [sv, hx, sliceL_head hc]) trivial H
 | p id off os _ hid hc => exact o_ldh hlt hx hid (fun hlt => by rw [hq hlt _ _ hid]; simp) (sliceL_head hc) H
theorem o_ldVn {d m : Nat} {x : SX} {r : List SO} {p : AV} {cs : List AV} (hlt : (decide (d < nt)) = true) (hx : ev (lk E) x = some p) (hp : VPtr h p cs) (hm : cs.length = m) (hq : 0 < q → Ext h h0)
  (H : SOps P A f nt h0 (q - 1) r ((d, .agg cs) :: E) bx h Q) : SOps P A f nt h0 q (⟨some d, none, .ld x (some m)⟩ :: r) E bx h Q := by
 subst hm
 cases hp with
 | t os _ off hc => exact o_val (p := True) hlt (by simp only [sv, hx, hc]) trivial H
 | p id off os _ hid hc => exact o_ldhn hlt hx hid (fun hlt => by rw [hq hlt _ _ hid]; simp) hc H
theorem o_sltV {d s n : Nat} {x : SX} {lo hi : Option SX} {r : List SO} {v : AV} {cs : List AV} {l m : Int} (hlt : (decide (d < nt)) = true) (hx : ev (lk E) x = some v) (hv : VSl h s v cs n) (hlo : evI (lk E) 0 lo = some l) (hhi : evI (lk E) n hi = some m) (h1 : 0 ≤ l) (h2 : l ≤ m) (h3 : m ≤ n)
  (H : ∀ w, VSl h s w ((cs.take (m.toNat * s)).drop (l.toNat * s)) (m.toNat - l.toNat) → SOps P A f nt h0 (q - 1) r ((d, w) :: E) bx h Q) : SOps P A f nt h0 q (⟨some d, none, .slt x lo hi s⟩ :: r) E bx h Q := by
 have hl := hv.len
 have hb : l.toNat * s ≤ m.toNat * s := Nat.mul_le_mul_right s (by omega)
 have hb2 : m.toNat * s ≤ n * s := Nat.mul_le_mul_right s (by omega)
 have hlen : ((cs.take (m.toNat * s)).drop (l.toNat * s)).length = (m.toNat - l.toNat) * s := by
  rw [List.length_drop, List.length_take, hl, Nat.min_eq_left hb2, Nat.sub_mul]
 cases hv with
 | nil =>
  refine o_val (p := l = 0 ∧ m = 0) hlt (by simp only [sv, hx, hlo]; rw [show ((0 : Nat) : Int) = 0 from rfl] at hhi; rw [hhi]) ⟨by omega, by omega⟩ (H _ ?_)
  have e1 : l.toNat = 0 := by omega
  have e2 : m.toNat = 0 := by omega
  rw [e1, e2]
  simpa using VSl.nil
 | tsl _ _ _ => exact o_val (p := 0 ≤ l ∧ l ≤ m ∧ m ≤ n) hlt (by simp only [sv, hx, hlo, hhi]) ⟨h1, h2, h3⟩ (H _ (.tsl _ _ hlen))
 | sl id off _ os _ hid hc =>
  refine o_val (p := s = s ∧ 0 ≤ l ∧ l ≤ m ∧ m ≤ n) (v := .sl id (off + l.toNat * s) (m.toNat - l.toNat) s) hlt (by simp only [sv, hx, hlo, hhi]) ⟨rfl, h1, h2, h3⟩ (H _ (.sl _ _ _ os _ hid ?_))
  have e : sliceL cs (l.toNat * s) ((m.toNat - l.toNat) * s) = some ((cs.take (m.toNat * s)).drop (l.toNat * s)) := by
   have hsub : (m.toNat - l.toNat) * s = m.toNat * s - l.toNat * s := Nat.sub_mul _ _ _
   rw [sliceL_of (by rw [hsub]; omega), hsub, List.drop_take]
  exact sliceL_sub hc e
theorem srcOf_V {s n : Nat} {v : AV} {cs : List AV} (hv : VSl h s v cs n) : srcOf s h v = some (cs, n) := by
 cases hv with
 | nil => rfl
 | tsl _ _ hl => simp only [srcOf, sliceL_all hl]
 | sl id off _ os _ hid hc => simp only [srcOf, if_true, hid, hc]
end
inductive Chunks {α : Type} (R : List AV → α → Prop) (s : Nat) : List AV → List α → Prop where
 | nil : Chunks R s [] []
 | cons {c cs : List AV} {a : α} {l : List α} (hl : c.length = s) (ha : R c a) (H : Chunks R s cs l) : Chunks R s (c ++ cs) (a :: l)
theorem Chunks.len {α : Type} {R : List AV → α → Prop} {s : Nat} {cs : List AV} {l : List α} (H : Chunks R s cs l) : cs.length = l.length * s := by
 induction H with
 | nil => simp
 | cons hl ha H ih => rw [List.length_append, hl, ih, List.length_cons, Nat.add_mul]; omega
theorem Chunks.imp {α : Type} {R R' : List AV → α → Prop} {s : Nat} {cs : List AV} {l : List α} (hR : ∀ c a, R c a → R' c a) (H : Chunks R s cs l) : Chunks R' s cs l := by
 induction H with
 | nil => exact .nil
 | cons hl ha H ih => exact .cons hl (hR _ _ ha) ih
theorem Chunks.append {α : Type} {R : List AV → α → Prop} {s : Nat} {cs ds : List AV} {l m : List α} (H : Chunks R s cs l) (G : Chunks R s ds m) : Chunks R s (cs ++ ds) (l ++ m) := by
 induction H with
 | nil => exact G
 | cons hl ha H ih => rw [List.append_assoc]; exact .cons hl ha ih
theorem Chunks.one {α : Type} {R : List AV → α → Prop} {s : Nat} {c : List AV} {a : α} (hl : c.length = s) (ha : R c a) : Chunks R s c [a] := by
 have := Chunks.cons hl ha (.nil (R := R) (s := s))
 rwa [List.append_nil] at this
theorem Chunks.get {α : Type} {R : List AV → α → Prop} {s : Nat} {cs : List AV} {l : List α} (H : Chunks R s cs l) : ∀ {i : Nat} (hi : i < l.length), R ((cs.drop (i * s)).take s) l[i] ∧ ((cs.drop (i * s)).take s).length = s := by
 induction H with
 | nil => intro i hi; simp at hi
 | @cons c cs a l hl ha H ih =>
  intro i hi
  cases i with
  | zero =>
   simp only [Nat.zero_mul, List.drop_zero, List.getElem_cons_zero]
   rw [← hl, List.take_left]
   exact ⟨ha, rfl⟩
  | succ i =>
   have e : (c ++ cs).drop ((i + 1) * s) = cs.drop (i * s) := by
    rw [List.drop_append, Nat.add_mul, hl]
    rw [List.drop_of_length_le (by omega), List.nil_append]
    congr 1
    omega
   rw [e]
   exact ih (by simpa using hi)
theorem Chunks.take {α : Type} {R : List AV → α → Prop} {s : Nat} {cs : List AV} {l : List α} (H : Chunks R s cs l) : ∀ (n : Nat), Chunks R s (cs.take (n * s)) (l.take n) := by
 induction H with
 | nil => intro n; simpa using Chunks.nil
 | @cons c cs a l hl ha H ih =>
  intro n
  cases n with
  | zero => simpa using Chunks.nil
  | succ n =>
   have e : (c ++ cs).take ((n + 1) * s) = c ++ cs.take (n * s) := by
    rw [List.take_append, Nat.add_mul, hl, List.take_of_length_le (by omega)]
    congr 2
    omega
   rw [e]
   exact .cons hl ha (ih n)
theorem Chunks.drop {α : Type} {R : List AV → α → Prop} {s : Nat} {cs : List AV} {l : List α} (H : Chunks R s cs l) : ∀ (n : Nat), Chunks R s (cs.drop (n * s)) (l.drop n) := by
 induction H with
 | nil => intro n; simpa using Chunks.nil
 | @cons c cs a l hl ha H ih =>
  intro n
  cases n with
  | zero => simpa using Chunks.cons hl ha H
  | succ n =>
   have e : (c ++ cs).drop ((n + 1) * s) = cs.drop (n * s) := by
    rw [List.drop_append, Nat.add_mul, hl, List.drop_of_length_le (by omega), List.nil_append]
    congr 1
    omega
   rw [e]
   exact ih n
theorem Chunks.map {α : Type} {g : α → AV} : ∀ {cs : List AV} {l : List α}, Chunks (fun c a => c = [g a]) 1 cs l → cs = l.map g
 | _, _, .nil => rfl
 | _, _, .cons hl ha H => by rw [ha, Chunks.map H]; rfl
theorem Chunks.of_map {α : Type} {g : α → AV} : ∀ {l : List α}, Chunks (fun c a => c = [g a]) 1 (l.map g) l
 | [] => .nil
 | a :: _l => .cons (c := [g a]) rfl rfl Chunks.of_map
def Sl {α : Type} (R : Heap → List AV → α → Prop) (s : Nat) (h : Heap) (v : AV) (l : List α) : Prop := ∃ cs, VSl h s v cs l.length ∧ Chunks (R h) s cs l
def Mono {α : Type} (R : Heap → List AV → α → Prop) : Prop := ∀ h h' c a, Ext h h' → R h c a → R h' c a
theorem Sl.mono {α : Type} {R : Heap → List AV → α → Prop} (hR : Mono R) {s : Nat} {h h' : Heap} {v : AV} {l : List α} (hx : Ext h h') (H : Sl R s h v l) : Sl R s h' v l := by
 obtain ⟨cs, h1, h2⟩ := H
 exact ⟨cs, h1.mono hx, h2.imp fun c a => hR _ _ c a hx⟩
theorem Sl.one {α : Type} {R : Heap → List AV → α → Prop} {s : Nat} {h : Heap} {v : AV} {l : List α} (H : Sl R s h v l) : v.one = true := by
 obtain ⟨cs, h1, _⟩ := H
 exact h1.one
theorem Sl.nil {α : Type} {R : Heap → List AV → α → Prop} {s : Nat} {h : Heap} : Sl R s h (.nil .sl) [] := ⟨[], .nil, .nil⟩
def RN (k : IntKind) : Heap → List AV → Int → Prop := fun _ c a => c = [.int k a]
def RB : Heap → List AV → Bool → Prop := fun _ c a => c = [.bool a]
def RU : Heap → List AV → UInt8 → Prop := fun _ c a => c = [.int .u8 a.toNat]
def RTxt : Heap → List AV → List UInt8 → Prop := fun _ c a => c = [.str a]
theorem RN.mono {k : IntKind} : Mono (RN k) := fun _ _ _ _ _ h => h
theorem RB.mono : Mono RB := fun _ _ _ _ _ h => h
theorem RU.mono : Mono RU := fun _ _ _ _ _ h => h
theorem RTxt.mono : Mono RTxt := fun _ _ _ _ _ h => h
abbrev ub (b : UInt8) : AV := .int .u8 b.toNat
def ubs (l : List UInt8) : List AV := l.map ub
section
variable {P : Program} {A : Ann} {f nt : Nat} {E : Env} {bx : List Nat} {h : Heap} {Q : AX → Env → List Nat → Heap → Prop} {h0 : Heap} {q : Nat} {α : Type} {R : Heap → List AV → α → Prop} {l : List α}
theorem o_lenS {d s : Nat} {x : SX} {r : List SO} {v : AV} (hlt : (decide (d < nt)) = true) (hx : ev (lk E) x = some v) (hv : Sl R s h v l) (H : SOps P A f nt h0 (q - 1) r ((d, .int .i64 l.length) :: E) bx h Q) :
  SOps P A f nt h0 q (⟨some d, none, .len x none⟩ :: r) E bx h Q := by
 obtain ⟨cs, h1, _⟩ := hv
 exact o_lenV hlt hx h1 H
theorem o_iaS {d s : Nat} {x i : SX} {r : List SO} {v : AV} {k : IntKind} {z : Nat} (hlt : (decide (d < nt)) = true) (hx : ev (lk E) x = some v) (hi : ev (lk E) i = some (.int k (z : Int))) (hv : Sl R s h v l) (hz : z < l.length)
  (H : ∀ p c, VPtr h p c → R h c l[z] → c.length = s → SOps P A f nt h0 (q - 1) r ((d, p) :: E) bx h Q) : SOps P A f nt h0 q (⟨some d, none, .ia x i none s⟩ :: r) E bx h Q := by
 obtain ⟨cs, h1, h2⟩ := hv
 obtain ⟨g1, g2⟩ := h2.get hz
 refine o_iaV hlt hx hi h1 (by omega) (by omega) fun p hp => ?_
 rw [Int.toNat_natCast] at hp
 exact H p _ hp g1 g2
theorem o_sltS {d s : Nat} {x : SX} {lo hi : Option SX} {r : List SO} {v : AV} {a b : Nat} (hlt : (decide (d < nt)) = true) (hx : ev (lk E) x = some v) (hv : Sl R s h v l) (hlo : evI (lk E) 0 lo = some (a : Int)) (hhi : evI (lk E) l.length hi = some (b : Int)) (h2 : a ≤ b) (h3 : b ≤ l.length)
  (H : ∀ w, Sl R s h w ((l.take b).drop a) → SOps P A f nt h0 (q - 1) r ((d, w) :: E) bx h Q) : SOps P A f nt h0 q (⟨some d, none, .slt x lo hi s⟩ :: r) E bx h Q := by
 obtain ⟨cs, g1, g2⟩ := hv
 refine o_sltV hlt hx g1 hlo hhi (by omega) (by omega) (by omega) fun w hw => H w ⟨_, ?_, (g2.take b).drop a⟩
 simp only [Int.toNat_natCast] at hw
 have : ((l.take b).drop a).length = b - a := by simp; omega
 rw [this]
 exact hw
end
end Go.Abs
