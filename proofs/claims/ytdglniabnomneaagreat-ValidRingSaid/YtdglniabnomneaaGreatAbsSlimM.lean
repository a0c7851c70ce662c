/- Further rules: parts that are not written out. -/
import Derived.Test.YtdglniabnomneaaGreatAbsBox
namespace Go.Abs

section
variable {P : Program} {A : Ann} {f nt : Nat} {E : Env} {bx : List Nat} {h : Heap} {Q : AX → Env → List Nat → Heap → Prop} {h0 : Heap} {q : Nat}

theorem fill_nil {cs : List AV} : fillS (lk E) cs [] = some cs := rfl
theorem fill_one {cs cs' out : List AV} {o : Nat} {x : SX} {v : AV} {r : List (Nat × Nat × SX)} (hx : ev (lk E) x = some v) (ho : v.one = true) (hs : setL cs o v = some cs') (H : fillS (lk E) cs' r = some out) : fillS (lk E) cs ((o, 1, x) :: r) = some out := by
  simp only [fillS, hx]
  cases v with
  | agg l => cases ho
  | _ => simp only [if_true, hs, H]
theorem fill_agg {cs cs' vs out : List AV} {o s : Nat} {x : SX} {r : List (Nat × Nat × SX)} (hx : ev (lk E) x = some (.agg vs)) (hl : vs.length = s) (h0 : 0 < s) (hs : putL cs o vs = some cs') (H : fillS (lk E) cs' r = some out) : fillS (lk E) cs ((o, s, x) :: r) = some out := by
  simp only [fillS, hx]
  rw [if_pos ⟨hl, h0⟩]
  simp only [hs, H]

theorem o_bld {d : Nat} {z cs : List AV} {ps : List (Nat × Nat × SX)} {r : List SO} (hlt : (decide (d < nt)) = true) (hf : fillS (lk E) z ps = some cs) (H : SOps P A f nt h0 (q - 1) r ((d, .agg cs) :: E) bx h Q) : SOps P A f nt h0 q (⟨some d, none, .bld z ps⟩ :: r) E bx h Q :=
  o_val (p := True) (v := .agg cs) hlt (by simp only [sv, hf]) trivial H
theorem o_bslT {d s n : Nat} {z cs : List AV} {ps : List (Nat × Nat × SX)} {r : List SO} (hlt : (decide (d < nt)) = true) (hf : fillS (lk E) z ps = some cs) (hl : cs.length = n * s) (ho : cs.all AV.one = true) (H : SOps P A f nt h0 (q - 1) r ((d, .tsl cs n) :: E) bx h Q) : SOps P A f nt h0 q (⟨some d, none, .bsl z s n ps⟩ :: r) E bx h Q :=
  o_val (p := cs.length = n * s ∧ cs.all AV.one = true) (v := .tsl cs n) hlt (by simp only [sv, hf]) ⟨hl, ho⟩ H

/- what is computed as it is wanted: a truth -/
theorem o_true {d : Nat} {k : SK} {r : List SO} {p : Prop} {e : Bool} (hlt : (decide (d < nt)) = true) (hv : sv (lk E) k = some (p, .bool e)) (hp : p) (he : e = true) (H : SOps P A f nt h0 (q - 1) r ((d, .bool true) :: E) bx h Q) :
    SOps P A f nt h0 q (⟨some d, none, k⟩ :: r) E bx h Q := by subst he; exact o_val hlt hv hp H

theorem NSl.one {k : IntKind} {v : AV} {l : List Int} (h : NSl k v l) : v.one = true := TSl.one h
theorem NSl.tree {k : IntKind} {v : AV} {l : List Int} (h : NSl k v l) : v.tree = true := TSl.tree h nums_trees
theorem NSl.atom {k : IntKind} {v : AV} {l : List Int} (h : NSl k v l) : v.atom = true := TSl.atom h

/- a cut of a slice of numbers -/
theorem o_sltN {d : Nat} {x : SX} {lo hi : Option SX} {r : List SO} {v : AV} {k : IntKind} {l : List Int} {a b : Nat} (hlt : (decide (d < nt)) = true) (hx : ev (lk E) x = some v) (hv : NSl k v l) (hlo : evI (lk E) 0 lo = some (a : Int)) (hhi : evI (lk E) l.length hi = some (b : Int)) (h2 : a ≤ b) (h3 : b ≤ l.length)
    (H : ∀ w, NSl k w ((l.take b).drop a) → SOps P A f nt h0 (q - 1) r ((d, w) :: E) bx h Q) : SOps P A f nt h0 q (⟨some d, none, .slt x lo hi 1⟩ :: r) E bx h Q :=
  o_sltT hlt hx hv hlo hhi (by omega) (by omega) (by omega) fun w hw => H w (by
    simp only [Int.toNat_natCast] at hw
    exact NSl.cut hv h3 hw)

/- the first append -/
theorem o_appnil {d s b : Nat} {x y : SX} {r : List SO} {vy : AV} {new : List AV} {n : Nat} (hlt : (decide (d < nt)) = true) (hx : ev (lk E) x = some (.nil .sl)) (hy : ev (lk E) y = some vy) (hsrc : srcOf s h vy = some (new, n))
    (hlen : new.length = n * s) (hone : new.all AV.one = true) (hbd : n * (b + 1) ≤ 2 ^ 44) (hqy : 0 < q → ∀ id o l z, vy = .sl id o l z → h0 id ≠ none)
    (H0 : n = 0 → SOps P A f nt h0 (q - 1) r ((d, .nil .sl) :: E) bx h Q)
    (H1 : 0 < n → ∀ i, h i = none → SOps P A f nt h0 (q - 1) r ((d, .sl i 0 n s) :: E) bx (upd h i (some (.cells new))) Q) : SOps P A f nt h0 q (⟨some d, none, .app s b x y⟩ :: r) E bx h Q := by
  refine o_heap (Q1 := fun v h1 => (n = 0 ∧ v = .nil .sl ∧ h1 = h) ∨ (0 < n ∧ ∃ i, h i = none ∧ v = .sl i 0 n s ∧ h1 = upd h i (some (.cells new)))) ?_ ?_
  · intro o rg hd e hs
    obtain ⟨x0, y0, t, u, args, ts, e', zz, hop, ha, ht, hx0, hy0, q1, q2, q3, q4, q5, q6, q7, ⟨qq, hu⟩, hro⟩ := slH_inv (getH e rfl (by simp))
    refine hop_of (by simp [hop]) hro (fun n' hn => ?_)
    obtain ⟨rd, hrd, hrd2⟩ := srcA_of (n := n') hsrc
    obtain ⟨v1, h1, n1, e1, e2⟩ : ∃ v1 h1 n1, appendTo s (.nil .sl) new n h n' = some (v1, h1, n1, ([], [])) ∧ ((n = 0 ∧ v1 = .nil .sl ∧ h1 = h) ∨ (0 < n ∧ ∃ i, h i = none ∧ v1 = .sl i 0 n s ∧ h1 = upd h i (some (.cells new)))) := by
      rcases Nat.eq_zero_or_pos n with h0 | hpos
      · exact ⟨.nil .sl, h, n', by simp [appendTo, h0, AM.pure], .inl ⟨h0, rfl, rfl⟩⟩
      · refine ⟨.sl n' 0 n s, upd h n' (some (.cells new)), n' + 1, ?_, .inr ⟨hpos, n', hn n' (Nat.le_refl _), rfl, rfl⟩⟩
        unfold appendTo
        rw [if_neg (by omega)]
        rfl
    refine ⟨v1, h1, n1, (rd ++ [], []), ?_, ?_, e2⟩
    · rw [hop]
      simp only [opM, ha, ht, evs, ev_sound hs hx0 hx, ev_sound hs hy0 hy, Option.map_some, lift_some_eq, pure_bind, builtinA, appendA, q1, q2, q3, q4, hu]
      rw [if_pos ⟨q5, q6, q7⟩]
      refine (bind_run hrd (h2 := h1) (n2 := n1) (b := v1) (l2 := ([], [])) ?_).trans (by simp)
      simp only [lenOfA]
      rw [if_pos ⟨by rw [Nat.zero_add]; exact hbd, hlen, hone⟩]
      exact e1
    · intro hq
      refine ⟨rfl, fun id hid => ?_⟩
      obtain ⟨o', l', z', hvy⟩ := hrd2 id (by simpa using hid)
      exact hqy hq id o' l' z' hvy
  · rintro v h1 o rg hd e hv
    obtain ⟨x0, y0, t, u, args, ts, e', zz, hop, _⟩ := slH_inv (getH e rfl (by simp))
    refine ⟨bx, put_nb hd (by simpa [dstOk'] using hlt) (by rw [hop]; rfl), ?_⟩
    rcases hv with ⟨h0, rfl, rfl⟩ | ⟨h0, i, hi, rfl, rfl⟩
    · exact H0 h0
    · exact H1 h0 i hi

/- freezing, piece by piece -/
theorem fzW_nil {fz : AV → Heap → Option (AV × Heap)} {h : Heap} : fzW fz [] h = some ([], h) := rfl
theorem fzW_cons {fz : AV → Heap → Option (AV × Heap)} {v v' : AV} {r r' : List AV} {h h1 h2 : Heap} (e1 : fz v h = some (v', h1)) (e2 : fzW fz r h1 = some (r', h2)) : fzW fz (v :: r) h = some (v' :: r', h2) := by
  simp only [fzW, e1, e2]
theorem fzV_agg {k : Nat} {cs cs' : List AV} {h h' : Heap} (e : fzW (fzV k) cs h = some (cs', h')) : fzV (k + 1) (.agg cs) h = some (.agg cs', h') := by
  simp only [fzV, e]
theorem fzV_tup {k : Nat} {cs cs' : List AV} {h h' : Heap} (e : fzW (fzV k) cs h = some (cs', h')) : fzV (k + 1) (.tup cs) h = some (.tup cs', h') := by
  simp only [fzV, e]
theorem fzV_sl {k id off len sz : Nat} {cs l l' : List AV} {h h' : Heap} (hid : h id = some (.cells cs)) (hs : sliceL cs off (len * sz) = some l) (e : fzW (fzV k) l (upd h id none) = some (l', h')) : fzV (k + 1) (.sl id off len sz) h = some (.tsl l' len, h') := by
  simp only [fzV, hid, hs, e]

end

/- results, some of them in cells -/
inductive ResR (P : Program) (E : Env) (h : Heap) : List ResultVar → List AV → Prop where
  | nil : ResR P E h [] []
  | tmp {t : Nat} {v : AV} {l : List ResultVar} {vs : List AV} (h1 : lk E t = some v) (H : ResR P E h l vs) : ResR P E h (.tmp t :: l) (v :: vs)
  | cell {a : Nat} {t : TypeId} {id off : Nat} {cs : List AV} {v : AV} {l : List ResultVar} {vs : List AV} (h1 : lk E a = some (.ptr id off)) (h2 : cellsN P t = some none) (h3 : h id = some (.cells cs)) (h4 : cs[off]? = some v) (H : ResR P E h l vs) : ResR P E h (.cell a t :: l) (v :: vs)
  | cells {a : Nat} {t : TypeId} {id off m : Nat} {cs l' : List AV} {l : List ResultVar} {vs : List AV} (h1 : lk E a = some (.ptr id off)) (h2 : cellsN P t = some (some m)) (h3 : h id = some (.cells cs)) (h4 : sliceL cs off m = some l') (H : ResR P E h l vs) : ResR P E h (.cell a t :: l) (.agg l' :: vs)

section
variable {P : Program} {A : Ann} {f nt : Nat} {E : Env} {bx : List Nat} {h : Heap} {Q : AX → Env → List Nat → Heap → Prop} {h0 : Heap} {q : Nat}

theorem ResR.run {l : List ResultVar} {vs : List AV} (H : ResR P E h l vs) {rg : Nat → AV} (hs : Sat (lk E) rg) (n : Nat) : ∃ rd, resultsA P rg l h n = some (vs, h, n, (rd, [])) := by
  induction H with
  | nil => exact ⟨[], rfl⟩
  | tmp h1 _ ih =>
    obtain ⟨rd, e⟩ := ih
    refine ⟨rd ++ [], ?_⟩
    simp only [resultsA, hs _ _ h1]
    exact bind_run (l2 := ([], [])) e rfl
  | cell h1 h2 h3 h4 _ ih =>
    obtain ⟨rd, e⟩ := ih
    rename_i a t id off cs v l vs _
    have e1 : loadT P t (rg a) h n = some (v, h, n, ([id], [])) := by
      rcases cellsN_some h2 with ⟨m, e, _, _⟩ | ⟨_, g1, m, g2⟩
      · cases e
      · have hsl : sliceL cs off 1 = some [v] := by
          have hlt := (List.getElem?_eq_some_iff.1 h4).1
          unfold sliceL
          rw [if_pos (by omega)]
          congr 1
          rw [List.drop_eq_getElem_cons hlt, (List.getElem?_eq_some_iff.1 h4).2]
          rfl
        rw [hs _ _ h1]
        simp only [loadT, g1, g2, cellsAt]
        simp only [AM.bind, AM.get, h3, Bool.false_eq_true, if_false, hsl, AM.lift, AM.pure, shapeOf]
        rfl
    refine ⟨[id] ++ (rd ++ []), ?_⟩
    simp only [resultsA]
    have e2 := bind_run (f := fun vs => AM.pure (v :: vs)) (l2 := ([], [])) e rfl
    exact bind_run (f := fun v => AM.bind (resultsA P rg l) fun vs => AM.pure (v :: vs)) e1 e2
  | cells h1 h2 h3 h4 _ ih =>
    obtain ⟨rd, e⟩ := ih
    rename_i a t id off m cs l' l vs _
    have e1 : loadT P t (rg a) h n = some (.agg l', h, n, ([id], [])) := by
      rcases cellsN_some h2 with ⟨m', e, g1, g2⟩ | ⟨e, _⟩
      · cases e
        rw [hs _ _ h1]
        simp only [loadT, g1, g2, cellsAt]
        simp only [AM.bind, AM.get, h3, if_true, h4, AM.lift, AM.pure, shapeOf]
        rfl
      · cases e
    refine ⟨[id] ++ (rd ++ []), ?_⟩
    simp only [resultsA]
    have e2 := bind_run (f := fun vs => AM.pure (AV.agg l' :: vs)) (l2 := ([], [])) e rfl
    exact bind_run (f := fun v => AM.bind (resultsA P rg l) fun vs => AM.pure (v :: vs)) e1 e2

theorem res_R {l : List ResultVar} {vs : List AV} (H : ResR P E h l vs) (hf : A.fz f = false) : ∀ rg, Sat (lk E) rg → ResV P A f l rg h (tupled vs) := by
  intro rg hs n _
  obtain ⟨rd, e⟩ := H.run hs n
  refine ⟨h, n, (rd ++ [], [] ++ []), ?_⟩
  unfold resM
  rw [hf]
  exact bind_run (l2 := ([], [])) e rfl
theorem res_Rfz {l : List ResultVar} {vs : List AV} {v : AV} {h' : Heap} (H : ResR P E h l vs) (hf : A.fz f = true) (hz : fzV 1000 (tupled vs) h = some (v, h')) : ∀ rg, Sat (lk E) rg → ResV P A f l rg h v := by
  intro rg hs n _
  obtain ⟨rd, e⟩ := H.run hs n
  obtain ⟨lg, g⟩ := fzV_of 1000 _ _ _ _ n hz
  refine ⟨h', n, (rd ++ lg.1, [] ++ lg.2), ?_⟩
  unfold resM
  rw [hf]
  exact bind_run e g

end
end Go.Abs
