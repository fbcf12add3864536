/- Merged texts: The walks of (*message.words).next, number, text. What the world holds; Atoi, Split; the walk of (*message.words).number. The walk of (*message.words).terms. -/
import Derived.Test.YtmplpbdldcokjaaGreatDoorX5
import Derived.Test.YtmplpbdldcokjaaGreatDoorXv
import Derived.Test.YtmplpbdldcokjaaGreatDoorXe
namespace Go.Proofs.YtmplpbdldcokjaaGreatDoor
/- The walks of (*message.words).next, number, text. -/
section
open Go Go.RowKit Go.Shelf
set_option linter.unusedSimpArgs false
set_option linter.unusedVariables false

/-- words in memory, from a place of a block on -/
def StrAt (w : World) (s o : Nat) (l : List (List UInt8)) : Prop := ∀ (i : Nat) (x : List UInt8), l[i]? = some x → w.cell? ⟨s, o + i, none⟩ = some (.string (bs x))
theorem StrAt.keep {w w' : World} {s o : Nat} {l : List (List UInt8)} (h : StrAt w s o l) (he : w'.heap[s]? = w.heap[s]?) : StrAt w' s o l :=
  fun i x hx => (World.cell?_of_block (a := ⟨s, o + i, none⟩) he).trans (h i x hx)
theorem StrAt.tail {w : World} {s o : Nat} {x : List UInt8} {l : List (List UInt8)} (h : StrAt w s o (x :: l)) : StrAt w s (o + 1) l := fun i y hy => by
  have := h (i + 1) y (by simpa using hy)
  rwa [show o + (i + 1) = o + 1 + i from by omega] at this
/-- the reader of words: its block, the words that are left, and whether something was wrong -/
structure WS (w : World) (q s o : Nat) (l : List (List UInt8)) (bad : Bool) : Prop where
  blk : w.heap[q]? = some (.cells #[.slice (some ⟨s, o, none⟩) l.length l.length, .bool bad] 47 (0, 0))
  str : StrAt w s o l
  ne : s ≠ q
  lt : s < w.heap.size
  max : l.length ≤ 10000000
theorem WS.keep {w w' : World} {q s o : Nat} {l : List (List UInt8)} {bad : Bool} (h : WS w q s o l bad) (hb : Below w.heap.size w w') : WS w' q s o l bad :=
  ⟨(hb.block _ (heap_lt h.blk)).trans h.blk, h.str.keep (hb.block _ h.lt), h.ne, Nat.lt_of_lt_of_le h.lt hb.size, h.max⟩
theorem WS.grown {w w' : World} {q s o p : Nat} {l : List (List UInt8)} {bad : Bool} (h : WS w q s o l bad) (hg : w.grownBy w' (some p)) (hp : p ≠ q) (hps : p ≠ s) : WS w' q s o l bad :=
  ⟨(hg.block _ (heap_lt h.blk) (by simpa using hp.symm)).trans h.blk, h.str.keep (hg.block _ h.lt (by simpa using hps.symm)), h.ne, Nat.lt_of_lt_of_le h.lt hg.size, h.max⟩
theorem cells_two2 {w : World} {q : Nat} {a b : Value} {t : TypeId} (h : w.heap[q]? = some (.cells #[a, b] t (0, 0))) : w.cell? ⟨q, 0, none⟩ = some a ∧ w.cell? ⟨q, 1, none⟩ = some b ∧ w.frozen? ⟨q, 0, none⟩ = false ∧ w.frozen? ⟨q, 1, none⟩ = false := cells_two h
/-- what a method of the reader leaves -/
def WP (w : World) (q s : Nat) (l : List (List UInt8)) (bad : Bool) (v : Value) (e : Ending) (w' : World) : Prop := e = .returned v ∧ ∃ o, WS w' q s o l bad ∧ w.grownBy w' (some q)

theorem set_row {w : World} {q : Nat} {cs : Array Value} {T : TypeId} (h : w.heap[q]? = some (.cells cs T (0, 0))) (i : Nat) (v : Value) :
    (w.setCell ⟨q, i, none⟩ v).heap[q]? = some (.cells (cs.setIfInBounds i v) T (0, 0)) ∧ w.grownBy (w.setCell ⟨q, i, none⟩ v) (some q) :=
  ⟨by simp [World.setCell, Array.getElem?_modify, h], ⟨rfl, rfl, rfl, by simp [World.setCell], fun k _ hk => Below.heap_setCell _ _ _ _ (fun e => hk (by rw [e]))⟩⟩
theorem WS.wrong {w : World} {q s o : Nat} {l : List (List UInt8)} {bad : Bool} (h : WS w q s o l bad) : WS (w.setCell ⟨q, 1, none⟩ (.bool true)) q s o l true ∧ w.grownBy (w.setCell ⟨q, 1, none⟩ (.bool true)) (some q) := by
  obtain ⟨h1, h2⟩ := set_row h.blk 1 (.bool true)
  exact ⟨⟨h1, h.str.keep (h2.block _ h.lt (by simpa using h.ne)), h.ne, Nat.lt_of_lt_of_le h.lt h2.size, h.max⟩, h2⟩
theorem WS.step {w : World} {q s o : Nat} {x : List UInt8} {l : List (List UInt8)} {bad : Bool} (h : WS w q s o (x :: l) bad) :
    WS (w.setCell ⟨q, 0, none⟩ (.slice (some ⟨s, o + 1, none⟩) l.length l.length)) q s (o + 1) l bad ∧ w.grownBy (w.setCell ⟨q, 0, none⟩ (.slice (some ⟨s, o + 1, none⟩) l.length l.length)) (some q) := by
  obtain ⟨h1, h2⟩ := set_row h.blk 0 (.slice (some ⟨s, o + 1, none⟩) l.length l.length)
  have := h.max
  rw [List.length_cons] at this
  exact ⟨⟨h1, h.str.tail.keep (h2.block _ h.lt (by simpa using h.ne)), h.ne, Nat.lt_of_lt_of_le h.lt h2.size, by omega⟩, h2⟩
theorem WS.step1 {w : World} {q s o : Nat} {x : List UInt8} {bad : Bool} (h : WS w q s o [x] bad) :
    WS (w.setCell ⟨q, 0, none⟩ (.slice (some ⟨s, o, none⟩) 0 0)) q s o [] bad ∧ w.grownBy (w.setCell ⟨q, 0, none⟩ (.slice (some ⟨s, o, none⟩) 0 0)) (some q) := by
  obtain ⟨h1, h2⟩ := set_row h.blk 0 (.slice (some ⟨s, o, none⟩) 0 0)
  exact ⟨⟨h1, fun i y hy => by simp at hy, h.ne, Nat.lt_of_lt_of_le h.lt h2.size, by simp⟩, h2⟩

theorem below_grown {w w' : World} (h : Below w.heap.size w w') (row : Option Nat) : w.grownBy w' row := ⟨h.os, h.tape, h.output, h.size, fun k hk _ => h.block k hk⟩
set_option maxHeartbeats 4000000 in
set_option maxRecDepth 100000 in
theorem next_any (w : World) (q s o : Nat) (l : List (List UInt8)) (bad : Bool) (h : WS w q s o l bad) :
    Calls Tryz.prog 29 #[.pointer (some ⟨q, 0, none⟩)] w (WP w q s l.tail (bad || l.isEmpty) (.string (bs (l.headD [])))) := by
  obtain ⟨c0, c1, f0, f1⟩ := cells_two h.blk
  cases l with
  | nil =>
    have HX := Lib.hid h.wrong
    clear h
    go_enter Tryz.func29, Tryz.ntmps29
    go_wp2_with fail
    go_ret
    exact ⟨rfl, _, by simpa using HX.out.1, HX.out.2⟩
  | cons x l =>
    have cx := h.str 0 x rfl
    rw [Nat.add_zero] at cx
    cases l with
    | nil =>
      have HX := Lib.hid h.step1
      rw [show [x].length = 1 from rfl] at c0
      clear h
      go_enter Tryz.func29, Tryz.ntmps29
      go_wp2_with fail
      go_ret
      exact ⟨rfl, _, by simpa using HX.out.1, HX.out.2⟩
    | cons y l =>
      have HX := Lib.hid h.step
      have hm := h.max
      rw [List.length_cons] at c0 hm
      have hpos : 0 < (y :: l).length := by simp
      generalize hn : (y :: l).length = n at *
      have e1 : ((n : Int) + 1 == 0) = false := by simp; omega
      have e2 : n ≠ 0 := by omega
      clear h hn
      go_enter Tryz.func29, Tryz.ntmps29
      go_wp2_with fail
      go_ret
      exact ⟨rfl, _, by simpa using HX.out.1, HX.out.2⟩

/-- the two errors of strconv -/
def Er (w : World) : Prop := (2 < w.heap.size) ∧ (∃ te pe, w.cell? ⟨1, 0, none⟩ = some (.iface te pe)) ∧ ∃ te pe, w.cell? ⟨2, 0, none⟩ = some (.iface te pe)
theorem Er.below {w w' : World} (h : Er w) (hb : Below w.heap.size w w') : Er w' :=
  ⟨Nat.lt_of_lt_of_le h.1 hb.size, by rw [hb.cell (p := ⟨1, 0, none⟩) (by have := h.1; show (1 : Nat) < _; omega)]; exact h.2.1, by rw [hb.cell (p := ⟨2, 0, none⟩) (by have := h.1; show (2 : Nat) < _; omega)]; exact h.2.2⟩
theorem Er.grown {w w' : World} {q : Nat} (h : Er w) (hg : w.grownBy w' (some q)) (hq : 2 < q) : Er w' := by
  have h1 := hg.block 1 (by have := h.1; omega) (by simp; omega)
  have h2 := hg.block 2 (by have := h.1; omega) (by simp; omega)
  exact ⟨Nat.lt_of_lt_of_le h.1 hg.size, by rw [World.cell?_of_block (a := ⟨1, 0, none⟩) h1]; exact h.2.1, by rw [World.cell?_of_block (a := ⟨2, 0, none⟩) h2]; exact h.2.2⟩

set_option maxHeartbeats 4000000 in
set_option maxRecDepth 100000 in
theorem wtext_any (w : World) (q s o : Nat) (l : List (List UInt8)) (bad : Bool) (h : WS w q s o l bad) (hl : (l.headD []).length ≤ 30000000) :
    Calls Tryz.prog 32 #[.pointer (some ⟨q, 0, none⟩)] w (WP w q s l.tail (bad || (txO l).isNone) (.string (bs ((txO l).getD [])))) := by
  have CN := Lib.hid (next_any w q s o l bad h)
  have CU := Lib.hid (fun (y : World) => unescape_any y (bs (l.headD [])) (by rw [size_bs]; exact hl))
  rw [toList_bs] at CU
  have hlt := heap_lt h.blk
  have HQ : Hid (txO l = if l.isEmpty then none else unT (l.headD [])) := by
    unfold txO
    cases l <;> rfl
  have HE : Hid (unT (([] : List (List UInt8)).headD []) = none) := by rfl
  clear h hl
  cases hu : unT (l.headD []) with
  | some t =>
    have hne : l.isEmpty = false := by
      cases l with
      | nil => rw [HE.out] at hu; cases hu
      | cons x l => rfl
    rw [hne] at HQ CN
    rw [hu] at HQ
    have HT : Hid (txO l = some t) := HQ.out
    unfold unV at CU
    rw [unO_some hu] at CU
    simp only at CU
    have HRU : Hid (Value.string (bs t) = Value.string (bs ((txO l).getD []))) := by rw [Hid, HT.out]; rfl
    have HBB : Hid ((bad || false) = (bad || (txO l).isNone)) := by rw [Hid, HT.out]; rfl
    clear hu HQ HT HE hne
    generalize bs (l.headD []) = s0 at *
    generalize bs t = s1 at *
    go_enter Tryz.func32, Tryz.ntmps32
    go_wp2_with fail
    refine CN.out.mono ?_
    rintro e w1 ⟨rfl, o1, h1, g1⟩
    have H1 := Lib.hid h1
    have G1 := Lib.hid g1
    clear h1 g1
    go_wp2_with fail
    refine (CU.out _).mono ?_
    rintro e w2 ⟨rfl, hb⟩
    have H2 := Lib.hid (H1.out.keep hb)
    have G2 := Lib.hid (grown_trans G1.out (below_grown hb (some q)))
    clear hb
    go_wp2_with fail
    go_ret
    exact ⟨by rw [← HRU.out]; rfl, o1, by rw [← HBB.out]; exact H2.out, G2.out⟩
  | none =>
    have HT : Hid (txO l = none) := by rw [Hid, HQ.out, hu]; split <;> rfl
    unfold unV at CU
    rw [unO_none hu] at CU
    simp only at CU
    rw [show bs [] = ⟨#[]⟩ from rfl] at CU
    have HRU : Hid (Value.string ⟨#[]⟩ = Value.string (bs ((txO l).getD []))) := by rw [Hid, HT.out]; rfl
    have HBB : Hid (true = (bad || (txO l).isNone)) := by rw [Hid, HT.out]; simp
    clear hu HQ HT HE
    generalize bs (l.headD []) = s0 at *
    go_enter Tryz.func32, Tryz.ntmps32
    go_wp2_with fail
    refine CN.out.mono ?_
    rintro e w1 ⟨rfl, o1, h1, g1⟩
    have H1 := Lib.hid h1
    have G1 := Lib.hid g1
    clear h1 g1
    go_wp2_with fail
    refine (CU.out _).mono ?_
    rintro e w2 ⟨rfl, hb⟩
    have H2 := Lib.hid (H1.out.keep hb)
    have G2 := Lib.hid (grown_trans G1.out (below_grown hb (some q)))
    clear hb
    have HX := Lib.hid H2.out.wrong
    obtain ⟨c0, c1, f0, f1⟩ := cells_two H2.out.blk
    go_wp2_with fail
    go_ret
    exact ⟨by rw [← HRU.out]; rfl, o1, by rw [← HBB.out]; exact HX.out.1, grown_trans G2.out HX.out.2⟩

end
/- What the world holds; Atoi, Split; the walk of (*message.words).number. -/
section
open Go Go.RowKit Go.Shelf
set_option linter.unusedSimpArgs false
set_option linter.unusedVariables false

/-- what the package-level variables hold -/
structure Mw (w : World) : Prop where
  sz : 9 ≤ w.heap.size
  wd : Wd w
  tb : Tb w
  er : Er w
  ml : ∃ m, w.cell? ⟨0, 0, none⟩ = some (.int .i64 m)
theorem Tb.keep {w w' : World} (h : Tb w) (hk : w'.heap[(3 : Nat)]? = w.heap[(3 : Nat)]?) : Tb w' := by
  unfold Tb Lib.TabIs World.var? at *
  rw [gTab] at *
  rw [Option.bind_some] at *
  rw [hk]
  exact h
theorem Mw.keep {w w' : World} (h : Mw w) (hk : ∀ b, b < 9 → w'.heap[b]? = w.heap[b]?) (hs : w.heap.size ≤ w'.heap.size) : Mw w' := by
  obtain ⟨h0, ⟨a0, a1, a2, a3⟩, h2, ⟨b0, ⟨t1, p1, b1⟩, t2, p2, b2⟩, m, h4⟩ := h
  have c : ∀ (b o : Nat), b < 9 → w'.cell? ⟨b, o, none⟩ = w.cell? ⟨b, o, none⟩ := fun b o hb => World.cell?_of_block (a := ⟨b, o, none⟩) (hk b hb)
  exact ⟨by omega, ⟨Nat.lt_of_lt_of_le a0 hs, (c _ _ (by decide)).trans a1, (c _ _ (by decide)).trans a2, (c _ _ (by decide)).trans a3⟩, h2.keep (hk _ (by decide)), ⟨by omega, ⟨t1, p1, (c _ _ (by decide)).trans b1⟩, t2, p2, (c _ _ (by decide)).trans b2⟩, m, (c _ _ (by decide)).trans h4⟩
theorem Mw.below {w w' : World} (h : Mw w) (hb : Below w.heap.size w w') : Mw w' := h.keep (fun b hl => hb.block b (by have := h.sz; omega)) hb.size
theorem Mw.grown {w w' : World} {q : Nat} (h : Mw w) (hg : w.grownBy w' (some q)) (hq : 9 ≤ q) : Mw w' := h.keep (fun b hl => hg.block b (by have := h.sz; omega) (by simp; omega)) hg.size

def AtoiP (w : World) (l : List UInt8) (e : Ending) (w' : World) : Prop :=
  Below w.heap.size w w' ∧ ((∃ n, atoiO l = some n ∧ e = .returned (.tuple #[.int .i64 n, .nilIface])) ∨ (atoiO l = none ∧ ∃ n t p, e = .returned (.tuple #[.int .i64 n, .iface t p])))
theorem atoi_any (w : World) (s : ByteArray) (hs : s.size ≤ 4294967281) (he : Er w) : Calls Tryz.prog 58 #[.string s] w (AtoiP w s.data.toList) := by
  obtain ⟨_, ⟨t1, p1, h1⟩, t2, p2, h2⟩ := he
  rcases ha : Lib.atoiAll s.data.toList with n | _ | _
  · refine (strconv_Atoi_ok s (by omega) n ha w).mono fun e w' h => ⟨?_, .inl ⟨n, by unfold atoiO; rw [ha], h.1⟩⟩
    rcases h.2 with rfl | ⟨t, rfl⟩
    · exact Below.refl _ _
    · exact Lib.bytesWorld_below _ _ _
  · refine (strconv_Atoi_syntax s (by omega) ha _ w h1 (.inr ⟨_, _, rfl⟩)).mono fun e w' h => ?_
    obtain ⟨N, he, _, _, hb⟩ := h
    exact ⟨hb, .inr ⟨by unfold atoiO; rw [ha], 0, _, _, he⟩⟩
  · refine (strconv_Atoi_range s (by omega) ha _ w h2 (.inr ⟨_, _, rfl⟩)).mono fun e w' h => ?_
    obtain ⟨N, he, _, _, hb⟩ := h
    exact ⟨hb, .inr ⟨by unfold atoiO; rw [ha], _, _, _, he⟩⟩
theorem split_any (w : World) (s sep : List UInt8) (hsep : 1 ≤ sep.length) (hs : s.length ≤ 1000000000) (hm : Mw w) (F : List (List UInt8)) (hF : Lib.splitK sep 0 (Lib.count s sep) s = F) :
    Calls Tryz.prog 27 #[.string (bs s), .string (bs sep)] w fun e w' => e = .returned (.slice (some ⟨w.heap.size, 0, none⟩) F.length F.length) ∧ w' = w.alloc (.cells (F.map fun x => Value.string (bs x)).toArray 9) := by
  obtain ⟨m, hml⟩ := hm.ml
  have hd := Lib.splitB_data (bs sep) 0 (Lib.countB (bs s) (bs sep)) (bs s)
  have hl := Lib.splitB_all (bs sep) (by rw [size_bs]; exact hsep) 0 (Lib.countB (bs s) (bs sep)) (bs s) rfl
  have hc : Lib.countB (bs s) (bs sep) = Lib.count s sep := by
    show Lib.count (bs s).data.toList (bs sep).data.toList = _
    rw [toList_bs, toList_bs]
  rw [toList_bs, toList_bs, hc, hF] at hd
  rw [hc] at hl
  have hlen : F.length = Lib.count s sep + 1 := by rw [← hd, List.length_map]; exact hl
  have hmap : (Lib.splitB (bs sep) 0 (Lib.count s sep) (bs s)).map Value.string = F.map fun x => Value.string (bs x) := by
    rw [← hd, List.map_map]
    exact List.map_congr_left (fun b _ => by show Value.string b = Value.string (bs b.data.toList); rw [bs_toList])
  refine (strings_Split (bs s) (bs sep) m w (by rw [size_bs]; omega) hml (by rw [size_bs]; exact hsep)).mono fun e w' h => ?_
  rw [hc, hmap, ← hlen] at h
  exact h

set_option maxHeartbeats 4000000 in
set_option maxRecDepth 100000 in
theorem wnumber_any (w : World) (q s o : Nat) (l : List (List UInt8)) (bad : Bool) (h : WS w q s o l bad) (hq : 9 ≤ q) (hm : Mw w) (hl : (l.headD []).length ≤ 10000000) :
    Calls Tryz.prog 31 #[.pointer (some ⟨q, 0, none⟩)] w fun e w' => ∃ n : Int, (∀ v, numO l = some v → n = v) ∧ WP w q s l.tail (bad || (numO l).isNone) (.int .i64 n) e w' := by
  have CN := Lib.hid (next_any w q s o l bad h)
  have CA := Lib.hid (fun (y : World) (hy : Er y) => atoi_any y (bs (l.headD [])) (by rw [size_bs]; omega) hy)
  rw [toList_bs] at CA
  have HME := Lib.hid (fun (y : World) (hy : w.grownBy y (some q)) => (hm.grown hy hq).er)
  have HQ : Hid (numO l = if l.isEmpty then none else atoiO (l.headD [])) := by
    unfold numO
    cases l <;> rfl
  have HN0 : Hid (atoiO (([] : List (List UInt8)).headD []) = none) := by rfl
  clear h hl hm
  generalize hs0 : bs (l.headD []) = s0 at *
  clear hs0
  go_enter Tryz.func31, Tryz.ntmps31
  go_wp2_with fail
  refine CN.out.mono ?_
  rintro e w1 ⟨rfl, o1, h1, g1⟩
  have H1 := Lib.hid h1
  have G1 := Lib.hid g1
  have CX := Lib.hid (CA.out w1 (HME.out _ g1))
  clear h1 g1 CA
  go_wp2_with fail
  refine CX.out.mono ?_
  rintro e w2 ⟨hb, hcase⟩
  have H2 := Lib.hid (H1.out.keep hb)
  have G2 := Lib.hid (grown_trans G1.out (below_grown hb (some q)))
  clear hb
  rcases hcase with ⟨n, hn, rfl⟩ | ⟨hn, n, t, p, rfl⟩
  · have hne : l.isEmpty = false := by
      cases l with
      | nil => rw [HN0.out] at hn; cases hn
      | cons x l => rfl
    have HT : Hid (numO l = some n) := by rw [Hid, HQ.out, hne]; exact hn
    rw [hne] at H2
    have HBB : Hid ((bad || false) = (bad || (numO l).isNone)) := by rw [Hid, HT.out]; rfl
    clear hn hne
    go_wp2_with fail
    go_ret
    refine ⟨n, ⟨?_, ⟨rfl, o1, ?_, ?_⟩⟩⟩
    · intro v hv; rw [HT.out] at hv; injection hv
    · rw [← HBB.out]; exact H2.out
    · exact G2.out
  · have HT : Hid (numO l = none) := by rw [Hid, HQ.out, hn]; split <;> rfl
    have HBB : Hid (true = (bad || (numO l).isNone)) := by rw [Hid, HT.out]; simp
    have HX := Lib.hid H2.out.wrong
    obtain ⟨c0, c1, f0, f1⟩ := cells_two H2.out.blk
    clear hn
    go_wp2_with fail
    go_ret
    refine ⟨n, ⟨?_, ⟨rfl, o1, ?_, ?_⟩⟩⟩
    · intro v hv; rw [HT.out] at hv; cases hv
    · rw [← HBB.out]; exact HX.out.1
    · exact grown_trans G2.out HX.out.2

end
/- The walk of (*message.words).terms. -/
section
open Go Go.RowKit Go.Shelf
set_option linter.unusedSimpArgs false
set_option linter.unusedVariables false

theorem own_app {w : World} {base : Nat} {v : Value} {acc : List Tm} (h : OwnL TmV 25 2 w base v acc) {B : Nat} {x : List Value} {t : Tm} (hx : TmV w (fun b => B ≤ b) x t) (hl : x.length = 2) (hB : base ≤ B) (hv : ∀ k, v.ownBlock = some k → k < B) :
    ∃ xs, w.ownsRow base 25 2 v acc.length xs ∧ ∀ (g cp : Nat) (w6 : World) (o : Obj), w6.ownsRow base 25 2 (.slice (some ⟨g, 0, none⟩) (acc.length + 1) cp) (acc.length + 1) (xs ++ x) →
      (w.alloc o).grownBy w6 v.ownBlock → (v.ownBlock = some g ∨ g = w.heap.size + 1) → OwnL TmV 25 2 w6 base (.slice (some ⟨g, 0, none⟩) (acc.length + 1) cp) (acc ++ [t]) := by
  obtain ⟨xs, h1, h2, h3, h4⟩ := h
  refine ⟨xs.flatten, h3, fun g cp w6 o hown hgrow hat => ?_⟩
  exact OwnL.push keeps_tm h1 h2 h4 (keeps_tm _ _ _ _ _ _ hx (fun b hb _ => ⟨⟨by omega, fun e => by have := hv b e.symm; omega⟩, rfl⟩) (Nat.le_refl _)) hl (wA := w.alloc o) (fun b hb => Below.heap_alloc w o b hb) (by simp) hown hgrow
    (by rcases hat with hat | hat
        · exact .inl hat
        · exact .inr (by omega))
theorem allO_take {ps : List (List UInt8)} {k : Nat} {x : List UInt8} {acc : List Tm} (h : ps[k]? = some x) (ha : allO (ps.take k) = some acc) :
    (∀ t, termO x = some t → allO (ps.take (k + 1)) = some (acc ++ [t])) ∧ (termO x = none → allO ps = none) := by
  induction ps generalizing k acc with
  | nil => simp at h
  | cons y ps ih =>
    cases k with
    | zero =>
      simp at h
      subst h
      simp [allO] at ha
      subst ha
      constructor
      · intro t ht; simp [allO, ht]
      · intro ht; rw [allO, ht]
    | succ k =>
      rw [List.take_succ_cons, allO] at ha
      split at ha
      · rename_i t0 l0 h0 hl0
        injection ha with ha
        subst ha
        obtain ⟨i1, i2⟩ := ih (k := k) (by simpa using h) hl0
        constructor
        · intro t ht
          rw [List.take_succ_cons, allO, h0, i1 t ht]
          rfl
        · intro ht
          rw [allO, h0, i2 ht]
      · cases ha
theorem allO_len : ∀ {l : List (List UInt8)} {a : List Tm}, allO l = some a → a.length = l.length
  | [], a, h => by injection h with h; subst h; rfl
  | x :: r, a, h => by
    rw [allO] at h
    split at h
    · rename_i t l ht hl
      injection h with h
      subst h
      have := allO_len hl
      simp [this]
    · cases h
theorem pieces_le : ∀ s : List UInt8, (piecesF s).length ≤ s.length + 1 ∧ ∀ x ∈ piecesF s, x.length ≤ s.length
  | [] => by simp [piecesF]
  | [c] => by simp [piecesF]
  | c :: d :: r => by
    rw [piecesF]
    split
    · have ih := pieces_le r
      refine ⟨by simp; omega, fun x hx => ?_⟩
      rcases List.mem_cons.1 hx with rfl | hx
      · simp
      · have := ih.2 x hx; simp; omega
    · have ih := pieces_le (d :: r)
      cases hp : piecesF (d :: r) with
      | nil => exact absurd hp (piecesF_ne _)
      | cons y l =>
        rw [hp] at ih
        refine ⟨by simp [preP] at ih ⊢; omega, fun x hx => ?_⟩
        simp only [preP, List.mem_cons] at hx
        rcases hx with rfl | hx
        · have := ih.2 y (by simp); simp at this ⊢; omega
        · have := ih.2 x (by simp [hx]); simp at this ⊢; omega
/-- what terms leaves -/
def TWP (w : World) (q s : Nat) (l : List (List UInt8)) (bad : Bool) (e : Ending) (w' : World) : Prop :=
  ∃ (A : Option Addr) (cap : Nat), e = .returned (.slice A ((tmO l).getD []).length cap) ∧ SlV TmV 2 w' (fun b => w.heap.size ≤ b) A ((tmO l).getD []) ∧ ∃ o, WS w' q s o l.tail (bad || (tmO l).isNone) ∧ w.grownBy w' (some q)
theorem slv_none (w : World) (P : Nat → Prop) : SlV TmV 2 w P none [] := ⟨[], rfl, fun h => by simp at h, fun i x a h => by simp at h⟩

set_option maxHeartbeats 16000000 in
set_option maxRecDepth 100000 in
theorem wterms_any (w : World) (q s o : Nat) (l : List (List UInt8)) (bad : Bool) (h : WS w q s o l bad) (hq : 9 ≤ q) (hm : Mw w) (hl : (l.headD []).length ≤ 10000000) (hu : ∀ t, txO l = some t → t.length ≤ 10000000) :
    Calls Tryz.prog 30 #[.pointer (some ⟨q, 0, none⟩)] w (TWP w q s l bad) := by
  have CT := Lib.hid (wtext_any w q s o l bad h (by omega))
  have HMW := Lib.hid (fun (y : World) (hy : w.grownBy y (some q)) => hm.grown hy hq)
  have HQ : Hid (tmO l = (txO l).bind itemsF) := by
    unfold tmO txO termsP
    cases l <;> rfl
  have hqw := heap_lt h.blk
  clear h hl hm
  cases ht : txO l with
  | none =>
    have HT : Hid (tmO l = none) := by rw [Hid, HQ.out, ht]; rfl
    rw [ht] at CT
    rw [show bs ((none : Option (List UInt8)).getD []) = ⟨#[]⟩ from rfl] at CT
    clear ht hu HMW
    go_enter Tryz.func30, Tryz.ntmps30
    go_wp2_with fail
    refine CT.out.mono ?_
    rintro e w1 ⟨rfl, o1, h1, g1⟩
    have H1 := Lib.hid h1
    have G1 := Lib.hid g1
    clear h1 g1
    go_wp2_with fail
    go_ret
    refine ⟨none, 0, ?_, ?_, o1, ?_, G1.out⟩
    · rw [HT.out]; rfl
    · rw [HT.out]; exact slv_none _ _
    · rw [HT.out]; simpa using H1.out
  | some t =>
    rw [ht] at CT HQ
    have HTL := Lib.hid (hu t ht)
    clear hu
    replace ht : True := trivial
    clear ht
    by_cases ht0 : t = []
    · subst ht0
      have HT : Hid (tmO l = some []) := by rw [Hid, HQ.out]; rfl
      rw [show bs ((some ([] : List UInt8)).getD []) = ⟨#[]⟩ from rfl] at CT
      clear HMW
      go_enter Tryz.func30, Tryz.ntmps30
      go_wp2_with fail
      refine CT.out.mono ?_
      rintro e w1 ⟨rfl, o1, h1, g1⟩
      have H1 := Lib.hid h1
      have G1 := Lib.hid g1
      clear h1 g1
      go_wp2_with fail
      go_ret
      refine ⟨none, 0, ?_, ?_, o1, ?_, G1.out⟩
      · rw [HT.out]; rfl
      · rw [HT.out]; exact slv_none _ _
      · rw [HT.out]; simpa using H1.out
    have HT : Hid (tmO l = allO (piecesF t)) := by
      rw [Hid, HQ.out]
      show itemsF t = _
      unfold itemsF
      rw [if_neg (by cases t with | nil => exact absurd rfl ht0 | cons a r => simp)]
    have e0 : (bs t).toList.isEmpty = false := by
      rw [ByteArray.toList_eq, toList_bs]
      cases t with
      | nil => exact absurd rfl ht0
      | cons a r => rfl
    rw [show (some t).getD [] = t from rfl] at CT
    have CS := Lib.hid (fun (y : World) (hy : Mw y) => split_any y t [44, 32] (by simp) (by have := HTL.out; omega) hy (piecesF t) (split_pieces t))
    rw [show bs [44, 32] = ⟨#[44, 32]⟩ from rfl] at CS
    have HPL : Hid ((piecesF t).length ≤ 10000001 ∧ ∀ x ∈ piecesF t, x.length ≤ 10000000) := by
      have h1 := pieces_le t
      have h2 := HTL.out
      exact ⟨by omega, fun x hx => by have := h1.2 x hx; omega⟩
    clear ht0 HTL HQ
    generalize bs t = st at *
    generalize piecesF t = ps at *
    obtain ⟨i0, hi0, hz0, hz1, hz2⟩ := info_parts infoTerm
    have HI0 := Lib.hid hi0; have HZ0 := Lib.hid hz0; have HZ1 := Lib.hid hz1; have HZ2 := Lib.hid hz2
    clear hi0 hz0 hz1 hz2
    go_enter Tryz.func30, Tryz.ntmps30
    go_wp2_with fail
    refine CT.out.mono ?_
    rintro e w1 ⟨rfl, o1, h1, g1⟩
    have H1 := Lib.hid h1
    have G1 := Lib.hid g1
    have HM1 := Lib.hid (HMW.out w1 g1)
    clear h1 g1 CT
    have CS1 := Lib.hid (CS.out w1 HM1.out)
    clear CS
    go_wp2_with fail
    refine CS1.out.mono ?_
    rintro e w2 ⟨rfl, hw2⟩
    have HB2 : Hid (Below w1.heap.size w1 w2) := by rw [Hid, hw2]; exact (Below.refl _ _).alloc (Nat.le_refl _) _
    have HSB : Hid (w2.heap[w1.heap.size]? = some (.cells (ps.map fun x => Value.string (bs x)).toArray 9 (0, 0))) := by rw [Hid, hw2]; exact heap_alloc_new w1 _
    have hlt1 := heap_lt HSB.out
    generalize hs1 : w1.heap.size = s1 at *
    have HS1 := Lib.hid hs1
    clear hw2 hs1 CS1
    go_wp2_with fail
    go_loopw [4, 17] (fun v i wr => ∃ (k : Nat) (acc : List Tm), k ≤ ps.length ∧ i = .int .i64 k ∧ Hid (allO (ps.take k) = some acc ∧ OwnL TmV 25 2 wr w2.heap.size v acc ∧ Below w2.heap.size w2 wr)) (fun _ i _ => ps.length - (intOf i).toNat)
    case atStart => exact ⟨0, [], Nat.zero_le _, rfl, rfl, OwnL.nil _ _ _ _ _, Below.refl _ _⟩
    case round =>
      obtain ⟨k, acc, hk, rfl, HX⟩ := hrel
      have hs2 : s1 ≤ w2.heap.size := by have := HB2.out.size; have := HS1.out; omega
      have HBR := Lib.hid (HB2.out.trans (HX.out.2.2.mono hs2))
      have hsr : s1 ≤ wr.heap.size := Nat.le_trans hs2 HX.out.2.2.size
      by_cases hlk : k < ps.length
      rotate_left
      focus
        obtain rfl : k = ps.length := by omega
        have ha := HX.out.1
        rw [List.take_length] at ha
        have HTT : Hid (tmO l = some acc) := by rw [Hid, HT.out]; exact ha
        obtain ⟨A, cp, rfl⟩ := HX.out.2.1.len
        have HSL := Lib.hid (HX.out.2.1.sl keeps_tm)
        clear ha
        go_wp2_with fail
        go_ret
        have hsz := G1.out.size
        have hsz2 := HB2.out.size
        have hs1 := HS1.out
        refine ⟨A, cp, ?_, ?_, o1, ?_, ?_⟩
        · rw [HTT.out]; rfl
        · rw [HTT.out]; exact HSL.out.keep keeps_tm (fun b hb _ => ⟨by omega, rfl⟩) (Nat.le_refl _)
        · rw [HTT.out]
          have h := H1.out.keep (w' := wr) (by rw [hs1]; exact HBR.out)
          simpa using h
        · exact grown_trans G1.out (below_grown (by rw [hs1]; exact HBR.out) (some q))
      obtain ⟨x, hx⟩ : ∃ x, ps[k]? = some x := ⟨_, List.getElem?_eq_getElem hlk⟩
      have cx : wr.cell? ⟨s1, k, none⟩ = some (.string (bs x)) := by
        have h1 := (HX.out.2.2.cell (p := ⟨s1, k, none⟩) hlt1).trans (cell_blk HSB.out k)
        rw [h1]
        simp [hx]
      have hxl := HPL.out.2 x (List.mem_of_getElem? hx)
      have CP := Lib.hid (pterm_any wr (bs x) (by rw [size_bs]; omega) ((HM1.out.below (by rw [HS1.out]; exact HBR.out)).wd))
      rw [toList_bs] at CP
      have HAT := Lib.hid (allO_take hx HX.out.1)
      have hkl : ps.length ≤ 10000001 := HPL.out.1
      generalize bs x = sx at *
      clear hx hxl
      go_wp2_with fail
      refine CP.out.mono ?_
      clear CP cx
      rintro e w4 ⟨hb4, hm4⟩
      have HB4 := Lib.hid hb4
      clear hb4
      cases hr : termRF x with
      | err p z =>
        rw [hr] at hm4
        simp only at hm4
        subst hm4
        have hz := nz_termR hr
        have hz2 : (z != 0) = true := by simpa using hz
        have HTT : Hid (tmO l = none) := by
          rw [Hid, HT.out]
          exact HAT.out.2 (by unfold termO; rw [hr])
        have HB5 := Lib.hid ((HBR.out.trans (HB4.out.mono hsr)).alloc (Nat.le_trans hsr HB4.out.size) (.cells #[.string ⟨#[]⟩, .slice none 0 0] 25))
        have HW5 := Lib.hid (H1.out.keep (w' := w4.alloc (.cells #[.string ⟨#[]⟩, .slice none 0 0] 25)) (by rw [HS1.out]; exact HB5.out))
        have HX5 := Lib.hid HW5.out.wrong
        obtain ⟨c0, c1, f0, f1⟩ := cells_two HW5.out.blk
        clear hr hz
        go_wp2_with fail
        go_ret
        refine ⟨none, 0, ?_, ?_, o1, ?_, ?_⟩
        · rw [HTT.out]; rfl
        · rw [HTT.out]; exact slv_none _ _
        · rw [HTT.out]; simpa using HX5.out.1
        · exact grown_trans (grown_trans G1.out (below_grown (by rw [HS1.out]; exact HB5.out) (some q))) HX5.out.2
      | ok t =>
        rw [hr] at hm4
        simp only at hm4
        obtain ⟨v4, rfl, y, rfl, htm⟩ := hm4
        obtain ⟨nm', A', cp', a', rfl, rfl⟩ := htm.form
        have HTO := Lib.hid (HAT.out.1 _ (show termO x = some (.mk nm' a') by unfold termO; rw [hr]))
        obtain ⟨A, cp, hv⟩ := HX.out.2.1.len
        subst hv
        have hacc : acc.length ≤ ps.length := by
          have := allO_len HX.out.1
          rw [List.length_take] at this
          omega
        have HOB := Lib.hid (one_box w4 (.cells #[.string (bs nm'), .slice A' a'.length cp'] 25))
        have HB5 := Lib.hid (HB4.out.trans (HOB.out.1.mono HB4.out.size))
        have hO5 := HX.out.2.1.below keeps_tm HB5.out
        have ht5 := htm.keep (P' := fun b => wr.heap.size ≤ b) (fun b hp hb => ⟨hp, HOB.out.1.block b hb⟩) HOB.out.1.size
        obtain ⟨xs, hx1, hx2⟩ := own_app hO5 ht5 rfl HX.out.2.2.size (fun j hj => by obtain ⟨_, _, _, h3, _⟩ := HX.out.2.1; exact (h3.lt j hj).2)
        have HX1 := Lib.hid hx1
        have HX2 := Lib.hid hx2
        have HBW := Lib.hid (HX.out.2.2.trans (HB5.out.mono HX.out.2.2.size))
        have hbs : w2.heap.size ≤ (w4.alloc (.cells #[.string (bs nm'), .slice A' a'.length cp'] 25)).heap.size := HBW.out.size
        have c0 := cell_blk HOB.out.2 0
        have c1 := cell_blk HOB.out.2 1
        clear hx1 hx2 htm ht5 hO5 hr
        generalize hW5 : w4.alloc (.cells #[.string (bs nm'), .slice A' a'.length cp'] 25) = w5 at *
        go_wp2_with (at_builtin; refine wpList_append_lies _ rfl _ _ _ rfl w2.heap.size 25 i0 _ 2 40 Tryz.underlying23 HI0.out HZ0.out HZ1.out HZ2.out rfl (by omega) (.slice A acc.length cp) acc.length xs rfl (HX1.out.alloc _) ⟨w5.heap.size, 0, none⟩ 1 1 [.string (bs nm'), .slice A' a'.length cp'] rfl rfl (World.news_of_block (cs := #[.string (bs nm'), .slice A' a'.length cp']) (t := 25) (fr := (0, 0)) (heap_alloc_new w5 _)) (by simp [Value.oneCell']) (by omega) (by unfold maxLen; omega) (by omega) (by simp; omega) (w5.heap.size + 1) (by simp) ?_; intro g cp6 w6 hown6 hgrow hat hlt6; have HC6 := Lib.hid (HX2.out g cp6 w6 _ hown6 hgrow hat); have HB6 := Lib.hid ((HBW.out.alloc hbs (.cells #[.string (bs nm'), .slice A' a'.length cp'] 25)).grown hgrow (by simp; omega) (fun j hj => (HX1.out.lt j hj).1)); clear hown6 hgrow hat hlt6)
        go_roundw
        case rel => exact ⟨k + 1, acc ++ [.mk nm' a'], by omega, by go_num, HTO.out, HC6.out, HB6.out⟩
        case measure => simp [intOf]; omega

end
end Go.Proofs.YtmplpbdldcokjaaGreatDoor
