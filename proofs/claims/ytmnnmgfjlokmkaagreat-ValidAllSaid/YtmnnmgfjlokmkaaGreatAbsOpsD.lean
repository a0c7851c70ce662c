import Derived.Test.YtmnnmgfjlokmkaaGreatAbsOpsC
import Derived.Laws.IdiomStrings
import Derived.Laws.MakeOwn
open Go.RowKit (Below)
namespace Go.Abs
section
variable {P : Program} {B : Nat} {w0 : Anchor} {w : World} {μ : Mu} {M : Mem} {h h' : Heap} {n n' : Nat} {lg : Log}
theorem bytesOfA_some : ∀ {cs : List AV} {r : List UInt8} {vs : List Value}, bytesOfA cs = some r → VRs μ M cs vs → ∃ ns : List Int, vs = ns.map (Value.int .u8) ∧ r = ns.map (fun n => UInt8.ofNat n.toNat)
  | [], r, vs, e, hv => by
    simp [bytesOfA] at e
    subst e
    have := hv.1
    cases vs with
    | nil => exact ⟨[], rfl, rfl⟩
    | cons _ _ => simp at this
  | a :: cs, r, vs, e, hv => by
    cases vs with
    | nil => have := hv.1; simp at this
    | cons v vs =>
      rw [VRs.cons_iff] at hv
      unfold bytesOfA at e
      split at e
      · rename_i heq; cases heq
      · rename_i k r' heq
        cases heq
        obtain ⟨r2, h2, rfl⟩ := mapo e
        obtain ⟨ns, rfl, rfl⟩ := bytesOfA_some h2 hv.2
        cases hv.1
        exact ⟨k :: ns, rfl, rfl⟩
      · cases e
theorem foldl_pushes : ∀ (ns : List Int) (s : ByteArray), ns.foldl (fun r n => r.push (UInt8.ofNat n.toNat)) s = ⟨s.data ++ (ns.map (fun n => UInt8.ofNat n.toNat)).toArray⟩
  | [], s => by simp
  | n :: ns, s => by
    simp only [List.foldl_cons]
    rw [foldl_pushes ns]
    simp [ByteArray.push]
theorem isByte_of {e : TypeId} (hb : isByteT P e = true) : P.underlying e = some (.int .u8) := by
  unfold isByteT at hb
  split at hb
  · assumption
  · cases hb
theorem convertA_sim (sr : SR B w0 μ M h w) (hB : B ≤ w0.w.heap.size) (hfree : ∀ id, n ≤ id → id < n' → μ id = none) {s d : TypeId} {x v : AV} {xv : Value} (hx : VR μ M x xv) (e : convertA P s d x h n = some (v, h', n', lg)) :
    Step1 P B w0 μ M n n' h' w v (valS (convert s d xv)) := by
  obtain ⟨m, hm⟩ : ∃ m, m = convertA P s d x := ⟨_, rfl⟩
  rw [← hm] at e
  unfold convertA at hm
  split at hm
  · subst hm
    obtain ⟨h1, rfl, rfl⟩ := lift_some e
    obtain ⟨r, h2, h3⟩ := bindo h1
    cases hx
    exact Step1.same sr (ofv_vr h3) (spr_run h2 w)
  · rename_i ds s' hs hd
    subst hm
    obtain ⟨rfl, rfl, rfl⟩ := pure_some e
    have hxv := hx.str_inv
    subst hxv
    refine Step1.same sr (VR.str' _) ?_
    simp only [convert, Sem.run_bind, run_underlying hs, run_underlying hd, Result.andThen_ok]
    cases ds <;> rfl
  · rename_i el s' hs hd
    subst hm
    split at e
    · rename_i hb
      obtain ⟨id, _, _, _, _, e1, f1, _⟩ := bind_some e
      obtain ⟨rfl, rfl, rfl⟩ := new_some e1
      obtain ⟨rfl, rfl, rfl⟩ := pure_some f1
      have hxv := hx.str_inv
      subst hxv
      have hn := hfree id (Nat.le_refl _) (by omega)
      have hrun : (convert s d (.string ⟨s'.toArray⟩)).run P w = .ok (.slice (some ⟨w.heap.size, 0, none⟩) s'.length (grownCap w s'.length 0 el))
          (w.drew.alloc (.cells (bytesRow ⟨s'.toArray⟩ (grownCap w s'.length 0 el)) el ((bytesRow ⟨s'.toArray⟩ (grownCap w s'.length 0 el)).size, (bytesRow ⟨s'.toArray⟩ (grownCap w s'.length 0 el)).size + 1))) := by
        have hsz : (⟨s'.toArray⟩ : ByteArray).size = s'.length := by simp [ByteArray.size]
        have := run_bytes_of_string (P := P) w s d el ⟨s'.toArray⟩ hs hd (isByte_of hb)
        rwa [hsz] at this
      have hrow : (bytesRow ⟨s'.toArray⟩ (grownCap w s'.length 0 el)).size = grownCap w s'.length 0 el := by
        have hsz : (⟨s'.toArray⟩ : ByteArray).size = s'.length := by simp [ByteArray.size]
        simp [bytesRow, hsz]
        have := grownCap_ge w s'.length 0 el
        omega
      refine Step1.val hrun (((sr.drew (sr.le_size hB)).newCells (sr.le_size hB) hn _ _ _ _ (grownCap w s'.length 0 el) ?_ ?_ ?_ ?_)) (upd_le hn _) (upd_other _) ?_
      · simp
        exact grownCap_ge w s'.length 0 el
      · rw [hrow]; exact Nat.le_refl _
      · exact .inr (Nat.le_refl _)
      · refine ⟨by simp [bytesRow], ?_⟩
        intro i a v ha hv
        rw [List.getElem?_map] at ha
        obtain ⟨b, hb1, rfl⟩ := mapo ha
        rw [List.getElem?_take] at hv
        have hi : i < s'.length := (List.getElem?_eq_some_iff.1 hb1).1
        simp only [List.length_map, hi, if_true, bytesRow, Array.toList_append] at hv
        rw [List.getElem?_append_left (by simpa using hi)] at hv
        simp [hb1] at hv
        subst hv
        exact .int _ _
      · refine .sl id 0 s'.length 1 _ ⟨w.heap.size, 0, grownCap w s'.length 0 el⟩ ⟨w.heap.size, 0, none⟩ ?_ (grownCap_ge w s'.length 0 el) (fun _ => ⟨by simp, by simp⟩)
        simp [upd]
    · exact (fail_some e).elim
  · rename_i el hs hd
    subst hm
    split at e
    · rename_i hb
      obtain ⟨rfl, rfl, rfl⟩ := pure_some e
      cases hx
      refine Step1.same sr (cv := .string .empty) (VR.str' []) ?_
      rw [run_convert_bytes_string w s d el none 0 0 hs (isByte_of hb) hd]
      rfl
    · exact (fail_some e).elim
  · rename_i el id off len sz hs hd
    subst hm
    split at e
    · rename_i hb
      obtain ⟨rfl, hb⟩ := hb
      obtain ⟨cs, _, _, _, _, e1, f1, _⟩ := bind_some e
      obtain ⟨hl, rfl, rfl⟩ := lift_some f1
      cases hx with
      | sl _ _ _ _ cap r a hr hlc hcap =>
        obtain ⟨rfl, rfl, hlen, b, o, vs, hpv, hvs, hc⟩ := cellsAt_sim sr (.ptr id off r hr) e1
        obtain ⟨bs, hbs, rfl⟩ := mapo hl
        obtain ⟨ns, rfl, rfl⟩ := bytesOfA_some hbs hvs
        simp only [Value.pointer.injEq, Option.some.injEq, Addr.mk.injEq, and_true] at hpv
        obtain ⟨rfl, rfl⟩ := hpv
        refine Step1.same sr (cv := .string ⟨(ns.map (fun n => UInt8.ofNat n.toNat)).toArray⟩) (VR.str' _) ?_
        rw [run_convert_bytes_string w s d el (some a) len cap hs (isByte_of hb) hd]
        have hnl : ns.length = len := by
          have := hvs.1
          simp at this
          omega
        rw [run_bytesToString w a len cap ns, foldl_pushes]
        · simp
        · rcases Nat.eq_zero_or_pos cap with h0 | h0
          · have : len = 0 := by omega
            subst this
            cases ns with
            | nil => rfl
            | cons _ _ => simp at hnl
          · obtain ⟨rfl, _⟩ := hcap h0
            have := run_loadCells_at (P := P) hc
            simpa [hnl] using this
    · exact (fail_some e).elim
  · rename_i el cs len hs hd
    subst hm
    split at e
    · rename_i hb
      obtain ⟨cs', _, _, _, _, e1, f1, _⟩ := bind_some e
      obtain ⟨hcs, rfl, rfl⟩ := lift_some e1
      obtain ⟨hl, rfl, rfl⟩ := lift_some f1
      cases hx with
      | tsl _ _ cap a vs hlc hsp hm hr =>
        obtain ⟨bs, hbs, rfl⟩ := mapo hl
        have hlen := sliceL_len hcs
        have hvs : VRs μ M cs' ((List.range len).map vs) := by
          refine ⟨by simp [hlen.1], ?_⟩
          intro i x y hx hy
          have hi : i < len := by rw [← hlen.1]; exact (List.getElem?_eq_some_iff.1 hx).1
          simp [hi] at hy
          have := sliceL_get hcs hx
          rw [Nat.zero_add] at this
          exact hy ▸ hr i x this
        obtain ⟨ns, hns, rfl⟩ := bytesOfA_some hbs hvs
        refine Step1.same sr (cv := .string ⟨(ns.map (fun n => UInt8.ofNat n.toNat)).toArray⟩) (VR.str' _) ?_
        rw [run_convert_bytes_string w s d el (some a) len cap hs (isByte_of hb) hd]
        have hnl : ns.length = len := by
          have := congrArg List.length hns
          simp at this
          omega
        rw [run_bytesToString w a len cap ns, foldl_pushes]
        · simp
        · rcases Nat.eq_zero_or_pos len with h0 | h0
          · subst h0
            cases ns with
            | nil => rfl
            | cons _ _ => simp at hnl
          · have hsp' := hsp (.inl h0)
            obtain ⟨ab, ao, asp⟩ := a
            simp only at hsp'
            subst hsp'
            have := run_loadCells_at (P := P) (w := w) (b := ab) (o := ao) (vs := ns.map (Value.int .u8)) (by
              intro j v hv
              have hj : j < len := by
                have := (List.getElem?_eq_some_iff.1 hv).1
                simp at this
                omega
              rw [← hns] at hv
              simp [hj] at hv
              have hjc : j < cs.length := by omega
              rw [← hv]
              exact sr.mem _ _ _ (hm j _ (List.getElem?_eq_getElem hjc)))
            simpa [hnl] using this
    · exact (fail_some e).elim
  · rename_i el0 el id off len sz hs hd
    subst hm
    split at e
    · rename_i hb
      obtain ⟨hsd, hby, hlen, rfl⟩ := hb
      obtain ⟨cs, _, _, _, _, e1, f1, _⟩ := bind_some e
      obtain ⟨rfl, rfl, rfl⟩ := pure_some f1
      cases hx with
      | sl _ _ _ _ cap r a hr hlc hcap =>
        obtain ⟨ob, _, _, _, _, e2, f2, _⟩ := bind_some e1
        obtain ⟨hob, rfl, rfl⟩ := get_some e2
        cases ob with
        | map es => exact (fail_some f2).elim
        | cells cs0 =>
          obtain ⟨hsl, rfl, rfl⟩ := lift_some f2
          have hcl := sliceL_len hsl
          obtain ⟨r', g1, g2, _, g4⟩ := sr.live id _ hob
          rw [hr] at g1
          cases g1
          obtain ⟨o1, o2, _⟩ := g4
          obtain ⟨rfl, _⟩ := hcap (by omega)
          have hle : off + len ≤ cs0.length := by
            unfold sliceL at hsl
            split at hsl
            · assumption
            · cases hsl
          have hcell := (o2 off (by omega)).1
          obtain ⟨c, t, lo, hi, hblk⟩ : ∃ c t lo hi, w.heap[r.b]? = some (.cells c t (lo, hi)) := by
            unfold World.cell? at hcell
            simp only at hcell
            split at hcell
            · rename_i c t f hh
              exact ⟨c, t, f.1, f.2, hh⟩
            · simp at hcell
          have hrun : (convert s d (.slice (some ⟨r.b, r.o + off, none⟩) len cap)).run P w = .ok (.slice (some ⟨r.b, r.o + off, none⟩) len cap) (w.freeze ⟨r.b, c.size, none⟩ 1) := by
            simp only [convert, Sem.run_bind, run_underlying hs, run_underlying hd, run_underlying (isByte_of hby), Result.andThen_ok, hsd]
            simp [markStringish, World.shape?, hblk]
          exact Step1.val hrun (sr.mark g2 hblk) (.refl _) (fun _ _ => rfl) (.sl id off len 1 cap r _ hr hlc hcap)
    · exact (fail_some e).elim
  · subst hm
    exact (fail_some e).elim
end
end Go.Abs
