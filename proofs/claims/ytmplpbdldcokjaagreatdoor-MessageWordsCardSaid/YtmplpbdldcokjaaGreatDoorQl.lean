/- What the world holds; Atoi, Split; the walk of (*message.words).number. -/
import Derived.Test.YtmplpbdldcokjaaGreatDoorQk
import Derived.Test.YtmplpbdldcokjaaGreatDoorXv
namespace Go.Proofs.YtmplpbdldcokjaaGreatDoor
open Go Go.RowKit Go.Shelf
set_option linter.unusedSimpArgs false
set_option linter.unusedVariables false

/-- what the package-level variables hold -/
structure Mw (w : World) : Prop where
  sz : 9 ≤ w.heap.size
  wd : Wd w
  tb : Tb w
  er : Er w
  ml : ∃ m, w.cell? ⟨0, 0, none⟩ = some (.int .i64 m)
theorem Tb.keep {w w' : World} (h : Tb w) (hk : w'.heap[(3 : Nat)]? = w.heap[(3 : Nat)]?) : Tb w' := by
  unfold Tb Lib.TabIs World.var? at *
  rw [gTab] at *
  rw [Option.bind_some] at *
  rw [hk]
  exact h
theorem Mw.keep {w w' : World} (h : Mw w) (hk : ∀ b, b < 9 → w'.heap[b]? = w.heap[b]?) (hs : w.heap.size ≤ w'.heap.size) : Mw w' := by
  obtain ⟨h0, ⟨a0, a1, a2, a3⟩, h2, ⟨b0, ⟨t1, p1, b1⟩, t2, p2, b2⟩, m, h4⟩ := h
  have c : ∀ (b o : Nat), b < 9 → w'.cell? ⟨b, o, none⟩ = w.cell? ⟨b, o, none⟩ := fun b o hb => World.cell?_of_block (a := ⟨b, o, none⟩) (hk b hb)
  exact ⟨by omega, ⟨Nat.lt_of_lt_of_le a0 hs, (c _ _ (by decide)).trans a1, (c _ _ (by decide)).trans a2, (c _ _ (by decide)).trans a3⟩, h2.keep (hk _ (by decide)), ⟨by omega, ⟨t1, p1, (c _ _ (by decide)).trans b1⟩, t2, p2, (c _ _ (by decide)).trans b2⟩, m, (c _ _ (by decide)).trans h4⟩
theorem Mw.below {w w' : World} (h : Mw w) (hb : Below w.heap.size w w') : Mw w' := h.keep (fun b hl => hb.block b (by have := h.sz; omega)) hb.size
theorem Mw.grown {w w' : World} {q : Nat} (h : Mw w) (hg : w.grownBy w' (some q)) (hq : 9 ≤ q) : Mw w' := h.keep (fun b hl => hg.block b (by have := h.sz; omega) (by simp; omega)) hg.size

def AtoiP (w : World) (l : List UInt8) (e : Ending) (w' : World) : Prop :=
  Below w.heap.size w w' ∧ ((∃ n, atoiO l = some n ∧ e = .returned (.tuple #[.int .i64 n, .nilIface])) ∨ (atoiO l = none ∧ ∃ n t p, e = .returned (.tuple #[.int .i64 n, .iface t p])))
theorem atoi_any (w : World) (s : ByteArray) (hs : s.size ≤ 4294967281) (he : Er w) : Calls Tryz.prog 58 #[.string s] w (AtoiP w s.data.toList) := by
  obtain ⟨_, ⟨t1, p1, h1⟩, t2, p2, h2⟩ := he
  rcases ha : Lib.atoiAll s.data.toList with n | _ | _
  · refine (strconv_Atoi_ok s (by omega) n ha w).mono fun e w' h => ⟨?_, .inl ⟨n, by unfold atoiO; rw [ha], h.1⟩⟩
    rcases h.2 with rfl | ⟨t, rfl⟩
    · exact Below.refl _ _
    · exact Lib.bytesWorld_below _ _ _
  · refine (strconv_Atoi_syntax s (by omega) ha _ w h1 (.inr ⟨_, _, rfl⟩)).mono fun e w' h => ?_
    obtain ⟨N, he, _, _, hb⟩ := h
    exact ⟨hb, .inr ⟨by unfold atoiO; rw [ha], 0, _, _, he⟩⟩
  · refine (strconv_Atoi_range s (by omega) ha _ w h2 (.inr ⟨_, _, rfl⟩)).mono fun e w' h => ?_
    obtain ⟨N, he, _, _, hb⟩ := h
    exact ⟨hb, .inr ⟨by unfold atoiO; rw [ha], _, _, _, he⟩⟩
theorem split_any (w : World) (s sep : List UInt8) (hsep : 1 ≤ sep.length) (hs : s.length ≤ 1000000000) (hm : Mw w) (F : List (List UInt8)) (hF : Lib.splitK sep 0 (Lib.count s sep) s = F) :
    Calls Tryz.prog 27 #[.string (bs s), .string (bs sep)] w fun e w' => e = .returned (.slice (some ⟨w.heap.size, 0, none⟩) F.length F.length) ∧ w' = w.alloc (.cells (F.map fun x => Value.string (bs x)).toArray 9) := by
  obtain ⟨m, hml⟩ := hm.ml
  have hd := Lib.splitB_data (bs sep) 0 (Lib.countB (bs s) (bs sep)) (bs s)
  have hl := Lib.splitB_all (bs sep) (by rw [size_bs]; exact hsep) 0 (Lib.countB (bs s) (bs sep)) (bs s) rfl
  have hc : Lib.countB (bs s) (bs sep) = Lib.count s sep := by
    show Lib.count (bs s).data.toList (bs sep).data.toList = _
    rw [toList_bs, toList_bs]
  rw [toList_bs, toList_bs, hc, hF] at hd
  rw [hc] at hl
  have hlen : F.length = Lib.count s sep + 1 := by rw [← hd, List.length_map]; exact hl
  have hmap : (Lib.splitB (bs sep) 0 (Lib.count s sep) (bs s)).map Value.string = F.map fun x => Value.string (bs x) := by
    rw [← hd, List.map_map]
    exact List.map_congr_left (fun b _ => by show Value.string b = Value.string (bs b.data.toList); rw [bs_toList])
  refine (strings_Split (bs s) (bs sep) m w (by rw [size_bs]; omega) hml (by rw [size_bs]; exact hsep)).mono fun e w' h => ?_
  rw [hc, hmap, ← hlen] at h
  exact h

set_option maxHeartbeats 4000000 in
set_option maxRecDepth 100000 in
theorem wnumber_any (w : World) (q s o : Nat) (l : List (List UInt8)) (bad : Bool) (h : WS w q s o l bad) (hq : 9 ≤ q) (hm : Mw w) (hl : (l.headD []).length ≤ 1000000) :
    Calls Tryz.prog 31 #[.pointer (some ⟨q, 0, none⟩)] w fun e w' => ∃ n : Int, (∀ v, numO l = some v → n = v) ∧ WP w q s l.tail (bad || (numO l).isNone) (.int .i64 n) e w' := by
  have CN := Lib.hid (next_any w q s o l bad h)
  have CA := Lib.hid (fun (y : World) (hy : Er y) => atoi_any y (bs (l.headD [])) (by rw [size_bs]; omega) hy)
  rw [toList_bs] at CA
  have HME := Lib.hid (fun (y : World) (hy : w.grownBy y (some q)) => (hm.grown hy hq).er)
  have HQ : Hid (numO l = if l.isEmpty then none else atoiO (l.headD [])) := by
    unfold numO
    cases l <;> rfl
  have HN0 : Hid (atoiO (([] : List (List UInt8)).headD []) = none) := by rfl
  clear h hl hm
  generalize hs0 : bs (l.headD []) = s0 at *
  clear hs0
  go_enter Tryz.func31, Tryz.ntmps31
  go_wp2_with fail
  refine CN.out.mono ?_
  rintro e w1 ⟨rfl, o1, h1, g1⟩
  have H1 := Lib.hid h1
  have G1 := Lib.hid g1
  have CX := Lib.hid (CA.out w1 (HME.out _ g1))
  clear h1 g1 CA
  go_wp2_with fail
  refine CX.out.mono ?_
  rintro e w2 ⟨hb, hcase⟩
  have H2 := Lib.hid (H1.out.keep hb)
  have G2 := Lib.hid (grown_trans G1.out (below_grown hb (some q)))
  clear hb
  rcases hcase with ⟨n, hn, rfl⟩ | ⟨hn, n, t, p, rfl⟩
  · have hne : l.isEmpty = false := by
      cases l with
      | nil => rw [HN0.out] at hn; cases hn
      | cons x l => rfl
    have HT : Hid (numO l = some n) := by rw [Hid, HQ.out, hne]; exact hn
    rw [hne] at H2
    have HBB : Hid ((bad || false) = (bad || (numO l).isNone)) := by rw [Hid, HT.out]; rfl
    clear hn hne
    go_wp2_with fail
    go_ret
    refine ⟨n, ⟨?_, ⟨rfl, o1, ?_, ?_⟩⟩⟩
    · intro v hv; rw [HT.out] at hv; injection hv
    · rw [← HBB.out]; exact H2.out
    · exact G2.out
  · have HT : Hid (numO l = none) := by rw [Hid, HQ.out, hn]; split <;> rfl
    have HBB : Hid (true = (bad || (numO l).isNone)) := by rw [Hid, HT.out]; simp
    have HX := Lib.hid H2.out.wrong
    obtain ⟨c0, c1, f0, f1⟩ := cells_two H2.out.blk
    clear hn
    go_wp2_with fail
    go_ret
    refine ⟨n, ⟨?_, ⟨rfl, o1, ?_, ?_⟩⟩⟩
    · intro v hv; rw [HT.out] at hv; cases hv
    · rw [← HBB.out]; exact HX.out.1
    · exact grown_trans G2.out HX.out.2
end Go.Proofs.YtmplpbdldcokjaaGreatDoor
