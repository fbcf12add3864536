/- The walks of Join, Position and Same, of the program and of the reference. -/
import Derived.Test.YtmpdnmnimdkfnaaDoorLe
import Derived.Test.YtmpdnmnimdkfnaaDoorRl
import Derived.Test.YtmpdnmnimdkfnaaDoorSh
import Derived.Deep.RegionHeld3
import Derived.Lib.Join
namespace Go.Proofs.YtmpdnmnimdkfnaaDoor
open Go Go.RowKit Go.Shelf
set_option linter.unusedSimpArgs false

def OutB (w : World) (v : Value) (e : Ending) (w' : World) : Prop := e = .returned v ∧ Below w.heap.size w w'
theorem str_add {P : Program} {w : World} {a b : ByteArray} (h : a.size + b.size ≤ maxLen) : (Op.stringOp .add a b).run P w = .ok (.string (a ++ b)) w := by
  unfold maxLen at h
  simp [Op.stringOp]
  omega
theorem bs_app (a b : List UInt8) : bs a ++ bs b = bs (a ++ b) := by
  apply ByteArray.ext
  rw [ByteArray.data_append]
  simp [bs]

/-- a slice of tokens in memory -/
def TkS (w : World) (A : Option Addr) (l : List Tok) : Prop :=
  0 < l.length → ∃ b o, A = some ⟨b, o, none⟩ ∧ b < w.heap.size ∧ ∀ (i : Nat) (t : Tok), l[i]? = some t → w.cell? ⟨b, o + i * 3, none⟩ = some (.int .i64 t.kind) ∧ w.cell? ⟨b, o + i * 3 + 1, none⟩ = some (.string (bs t.text)) ∧ w.cell? ⟨b, o + i * 3 + 2, none⟩ = some (.int .i64 t.pos)
theorem TkS.keep {w w' : World} {A : Option Addr} {l : List Tok} (h : TkS w A l) (hb : Below w.heap.size w w') : TkS w' A l := by
  intro hn
  obtain ⟨b, o, hA, hlt, hc⟩ := h hn
  exact ⟨b, o, hA, Nat.lt_of_lt_of_le hlt hb.size, fun i t ht => ⟨(hb.cell (p := ⟨b, _, none⟩) hlt).trans (hc i t ht).1, (hb.cell (p := ⟨b, _, none⟩) hlt).trans (hc i t ht).2.1, (hb.cell (p := ⟨b, _, none⟩) hlt).trans (hc i t ht).2.2⟩⟩
theorem TkS.at {w : World} {A : Option Addr} {l : List Tok} (h : TkS w A l) (k : Nat) (hk : k < l.length) :
    ∃ b o kd tx ps, A = some ⟨b, o, none⟩ ∧ b < w.heap.size ∧ l[k] = ⟨kd, tx, ps⟩ ∧ w.cell? ⟨b, o + k * 3, none⟩ = some (.int .i64 kd) ∧ w.cell? ⟨b, o + k * 3 + 1, none⟩ = some (.string (bs tx)) ∧ w.cell? ⟨b, o + k * 3 + 2, none⟩ = some (.int .i64 ps) := by
  obtain ⟨b, o, hA, hlt, hc⟩ := h (by omega)
  obtain ⟨h1, h2, h3⟩ := hc k _ (List.getElem?_eq_getElem hk)
  exact ⟨b, o, _, _, _, hA, hlt, rfl, h1, h2, h3⟩
theorem tokCells_get (toks : List Tok) : ∀ (i : Nat) (t : Tok), toks[i]? = some t → (toksCells toks)[i * 3]? = some (.int .i64 t.kind) ∧ (toksCells toks)[i * 3 + 1]? = some (.string (bs t.text)) ∧ (toksCells toks)[i * 3 + 2]? = some (.int .i64 t.pos) := by
  induction toks with
  | nil => intro i t h; simp at h
  | cons a l ih =>
    intro i t h
    cases i with
    | zero => simp at h; subst h; exact ⟨rfl, rfl, rfl⟩
    | succ i =>
      have := ih i t (by simpa using h)
      have e : ∀ m, (toksCells (a :: l))[(i + 1) * 3 + m]? = (toksCells l)[i * 3 + m]? := fun m => by
        rw [show toksCells (a :: l) = tokCells a ++ toksCells l from rfl, List.getElem?_append_right (by simp [tokCells]; omega)]
        congr 1
        simp [tokCells]; omega
      exact ⟨(e 0).trans this.1, (e 1).trans this.2.1, (e 2).trans this.2.2⟩
theorem TkS.of_own {w : World} {base g n cap : Nat} {toks : List Tok} (h : w.ownsRow base 30 3 (.slice (some ⟨g, 0, none⟩) n cap) n (toksCells toks)) (hl : toks.length = n) : TkS w (some ⟨g, 0, none⟩) toks := by
  intro hn
  obtain ⟨g', cp, hv, hb, hlt⟩ := h.form (by omega)
  have hg : g = g' := by injection hv with hv; injection hv with hv; injection hv
  subst hg
  have hc := h.cells (g := g) rfl
  have hadd : ∀ j, (⟨g, 0, none⟩ : Addr).add j = ⟨g, j, none⟩ := fun j => by unfold Addr.add; split <;> simp_all
  refine ⟨g, 0, rfl, hlt, fun i t ht => ?_⟩
  obtain ⟨h1, h2, h3⟩ := tokCells_get toks i t ht
  simp only [Nat.zero_add]
  exact ⟨by rw [← hadd]; exact hc _ _ h1, by rw [← hadd]; exact hc _ _ h2, by rw [← hadd]; exact hc _ _ h3⟩

/-- the same, whatever the offsets are -/
def TkJ (w : World) (A : Option Addr) (l : List Tok) : Prop :=
  0 < l.length → ∃ b o, A = some ⟨b, o, none⟩ ∧ b < w.heap.size ∧ ∀ (i : Nat) (t : Tok), l[i]? = some t → w.cell? ⟨b, o + i * 3, none⟩ = some (.int .i64 t.kind) ∧ w.cell? ⟨b, o + i * 3 + 1, none⟩ = some (.string (bs t.text)) ∧ ∃ z : Int, w.cell? ⟨b, o + i * 3 + 2, none⟩ = some (.int .i64 z)
theorem TkS.j {w : World} {A : Option Addr} {l : List Tok} (h : TkS w A l) : TkJ w A l := by
  intro hn
  obtain ⟨b, o, hA, hlt, hc⟩ := h hn
  exact ⟨b, o, hA, hlt, fun i t ht => ⟨(hc i t ht).1, (hc i t ht).2.1, _, (hc i t ht).2.2⟩⟩
theorem TkJ.keep {w w' : World} {A : Option Addr} {l : List Tok} (h : TkJ w A l) (hb : Below w.heap.size w w') : TkJ w' A l := by
  intro hn
  obtain ⟨b, o, hA, hlt, hc⟩ := h hn
  exact ⟨b, o, hA, Nat.lt_of_lt_of_le hlt hb.size, fun i t ht => ⟨(hb.cell (p := ⟨b, _, none⟩) hlt).trans (hc i t ht).1, (hb.cell (p := ⟨b, _, none⟩) hlt).trans (hc i t ht).2.1, (hc i t ht).2.2.choose, (hb.cell (p := ⟨b, _, none⟩) hlt).trans (hc i t ht).2.2.choose_spec⟩⟩
theorem TkJ.at {w : World} {A : Option Addr} {l : List Tok} (h : TkJ w A l) (k : Nat) (hk : k < l.length) :
    ∃ b o kd tx, ∃ ps : Int, A = some ⟨b, o, none⟩ ∧ b < w.heap.size ∧ (l[k].kind = kd ∧ l[k].text = tx) ∧ w.cell? ⟨b, o + k * 3, none⟩ = some (.int .i64 kd) ∧ w.cell? ⟨b, o + k * 3 + 1, none⟩ = some (.string (bs tx)) ∧ w.cell? ⟨b, o + k * 3 + 2, none⟩ = some (.int .i64 ps) := by
  obtain ⟨b, o, hA, hlt, hc⟩ := h (by omega)
  obtain ⟨h1, h2, z, h3⟩ := hc k _ (List.getElem?_eq_getElem hk)
  exact ⟨b, o, _, _, z, hA, hlt, ⟨rfl, rfl⟩, h1, h2, h3⟩

set_option maxHeartbeats 4000000 in
set_option maxRecDepth 100000 in
theorem same_any (w : World) (A B : Option Addr) (ca cb : Nat) (l : List Tok) (hl : (l.length : Int) ≤ 1000000000) (ha : TkS w A l) (hb : TkS w B l) :
    Calls Tryd.prog 14 #[.slice A l.length ca, .slice B l.length cb] w (OutB w (.bool true)) := by
  have HA := Lib.hid ha
  have HB := Lib.hid hb
  clear ha hb
  go_enter Tryd.func14, Tryd.ntmps14
  go_wp2_with fail
  go_loopw [5] (fun i wr => ∃ k : Nat, k ≤ l.length ∧ i = .int .i64 k ∧ Hid (Below w.heap.size w wr)) (fun i _ => l.length - (intOf i).toNat)
  case atStart => exact ⟨0, Nat.zero_le _, rfl, Below.refl _ _⟩
  case round =>
    obtain ⟨k, hk, rfl, HI⟩ := hrel
    by_cases hlk : k < l.length
    · obtain ⟨b, o, kd, tx, ps, rfl, hbl, hlf, p0, p1, p2⟩ := (HA.out.keep HI.out).at k hlk
      obtain ⟨b', o', kd', tx', ps', rfl, hbl', hlf', p0', p1', p2'⟩ := (HB.out.keep HI.out).at k hlk
      rw [hlf] at hlf'
      simp only [Tok.mk.injEq] at hlf'
      obtain ⟨rfl, rfl, rfl⟩ := hlf'
      clear hlf
      go_wp2_with fail
      go_quiet (fail)
      clear p0 p1 p2 p0' p1' p2'
      go_wp2_with fail
      go_roundw
      case rel => exact ⟨k + 1, by omega, by go_num, below_drewN HI.out nq⟩
      case measure => simp [intOf]; omega
    · go_wp2_with fail
      go_ret
      exact ⟨rfl, HI.out⟩

/-- what Join gives -/
def textsF (l : List Tok) : List (List UInt8) := (l.filter fun t => t.kind != 0).map (·.text)
def joinF (l : List Tok) : List UInt8 := Lib.join (textsF l) [32]
theorem textsF_take {l : List Tok} {k : Nat} (hk : k < l.length) : textsF (l.take (k + 1)) = textsF (l.take k) ++ (if l[k].kind != 0 then [l[k].text] else []) := by
  unfold textsF
  rw [List.take_succ_eq_append_getElem hk, List.filter_append, List.map_append]
  congr 1
  cases h : (l[k].kind != 0) <;> simp [List.filter_cons, h]
theorem join_snoc (xs : List (List UInt8)) (x : List UInt8) : Lib.join (xs ++ [x]) [32] = if xs.isEmpty then x else Lib.join xs [32] ++ [32] ++ x := by
  cases xs with
  | nil => simp [Lib.join_one]
  | cons a r => rw [List.cons_append, Lib.join_cons, Lib.join_cons]; simp [Lib.joinTail]
theorem textsF_drop (l : List Tok) (k : Nat) : textsF l = textsF (l.take k) ++ textsF (l.drop k) := by
  unfold textsF
  rw [← List.map_append, ← List.filter_append, List.take_append_drop]
theorem join_le (xs ys : List (List UInt8)) : (Lib.join xs [32]).length ≤ (Lib.join (xs ++ ys) [32]).length := by
  cases xs with
  | nil => rw [Lib.join_nil]; exact Nat.zero_le _
  | cons a r =>
    rw [List.cons_append, Lib.join_cons, Lib.join_cons]
    simp [Lib.joinTail]
theorem joinF_le (l : List Tok) (k : Nat) : (joinF (l.take k)).length ≤ (joinF l).length := by
  unfold joinF
  rw [textsF_drop l k]
  exact join_le _ _

set_option maxHeartbeats 4000000 in
set_option maxRecDepth 100000 in
theorem rjoin_any (w : World) (A : Option Addr) (ca : Nat) (l : List Tok) (hl : (l.length : Int) ≤ 1000000000) (ha : TkJ w A l) (hm : (joinF l).length ≤ 140737488355328) :
    Calls Tryd.prog 17 #[.slice A l.length ca] w (fun e w' => e = .returned (.string (bs (joinF l))) ∧ w = w') := by
  have HA := Lib.hid ha
  have HM := Lib.hid hm
  clear ha hm
  go_enter Tryd.func17, Tryd.ntmps17
  go_wp2_with fail
  go_loop [3, 4, 5] (fun s f i => ∃ k : Nat, k ≤ l.length ∧ i = .int .i64 k ∧ s = .string (bs (joinF (l.take k))) ∧ f = .bool (textsF (l.take k)).isEmpty) (fun _ _ i => l.length - (intOf i).toNat)
  case atStart => exact ⟨0, Nat.zero_le _, rfl, rfl, rfl⟩
  case round =>
    obtain ⟨k, hk, rfl, rfl, rfl⟩ := hrel
    by_cases hlk : k < l.length
    rotate_left
    focus
      obtain rfl : k = l.length := by omega
      rw [List.take_length]
      go_wp2_with fail
      go_ret
      exact ⟨rfl, rfl⟩
    obtain ⟨b, o, kd, tx, ps, rfl, hbl, hlf, p0, p1, p2⟩ := HA.out.at k hlk
    have hstep := textsF_take hlk
    have hle := joinF_le l (k + 1)
    have hM := HM.out
    rw [hlf.1, hlf.2] at hstep
    clear hlf p2
    by_cases hz : kd = 0
    focus
      subst hz
      simp only [bne_self_eq_false, Bool.false_eq_true, if_false, List.append_nil] at hstep
      have HS1 : Hid (textsF (l.take (k + 1)) = textsF (l.take k)) := hstep
      have HS2 : Hid (joinF (l.take (k + 1)) = joinF (l.take k)) := by unfold Hid joinF; rw [hstep]
      clear hstep hle hM
      go_wp2_with fail
      go_round
      case rel => exact ⟨k + 1, by omega, by go_num, by rw [HS2.out], by rw [HS1.out]⟩
      case measure => simp [intOf]; omega
    have hz1 : (kd == 0) = false := beq_eq_false_iff_ne.2 hz
    have hz2 : (kd != 0) = true := bne_iff_ne.2 hz
    rw [if_pos hz2] at hstep
    have hj : joinF (l.take (k + 1)) = if (textsF (l.take k)).isEmpty then tx else joinF (l.take k) ++ [32] ++ tx := by
      unfold joinF
      rw [hstep, join_snoc]
    have hem : (textsF (l.take (k + 1))).isEmpty = false := by rw [hstep]; simp
    have HEM := Lib.hid hem
    clear hstep hem hz
    rw [hj] at hle
    have HJ := Lib.hid hj
    clear hj
    cases hf : (textsF (l.take k)).isEmpty with
    | true =>
      have hJ0 : joinF (l.take k) = [] := by
        unfold joinF
        rw [List.isEmpty_iff.1 hf]
        rfl
      rw [hf, if_pos rfl] at HJ
      rw [hJ0]
      clear hJ0 hle hf
      have hadd : ∀ y : World, (Op.stringOp .add (bs []) (bs tx)).run Tryd.prog y = .ok (.string (bs tx)) y := fun y => by
        have h1 := HM.out
        have h2 := joinF_le l (k + 1)
        rw [HJ.out] at h2
        have := str_add (P := Tryd.prog) (w := y) (a := bs []) (b := bs tx) (by rw [size_bs, size_bs]; unfold maxLen; simp; omega)
        rwa [bs_app, List.nil_append] at this
      clear hM
      generalize hbt : bs tx = bt at *
      generalize he : bs [] = be at *
      have HE := Lib.hid he
      have HBT := Lib.hid hbt
      clear he hbt
      go_wp2_with fail
      go_round
      case rel => exact ⟨k + 1, by omega, by go_num, by rw [HJ.out, HBT.out], by rw [HEM.out]⟩
      case measure => simp [intOf]; omega
    | false =>
      rw [hf, if_neg Bool.false_ne_true] at HJ hle
      rw [List.length_append, List.length_append] at hle
      have hadd1 : ∀ y : World, (Op.stringOp .add (bs (joinF (l.take k))) ⟨#[32]⟩).run Tryd.prog y = .ok (.string (bs (joinF (l.take k) ++ [32]))) y := fun y => by
        rw [← bs_app]
        exact str_add (by rw [size_bs]; show _ + 1 ≤ _; unfold maxLen; simp at hle; omega)
      have hadd2 : ∀ y : World, (Op.stringOp .add (bs (joinF (l.take k) ++ [32])) (bs tx)).run Tryd.prog y = .ok (.string (bs (joinF (l.take k) ++ [32] ++ tx))) y := fun y => by
        rw [← bs_app (joinF (l.take k) ++ [32])]
        exact str_add (by rw [size_bs, size_bs]; unfold maxLen; simp at hle ⊢; omega)
      clear hM hle hf
      rw [← HJ.out] at hadd2
      generalize hg : bs (joinF (l.take (k + 1))) = J2 at *
      have HG := Lib.hid hg
      clear hg HJ
      generalize bs (joinF (l.take k) ++ [32]) = J1 at *
      generalize bs (joinF (l.take k)) = J0 at *
      generalize bs tx = bt at *
      go_wp2_with fail
      go_round
      case rel => exact ⟨k + 1, by omega, by go_num, by rw [HG.out], by rw [HEM.out]⟩
      case measure => simp [intOf]; omega

theorem infoStr : (Tryd.prog.info? 9).map (fun i => (i.zero, i.size, i.bytes)) = some (some (.string ⟨#[]⟩), 1, 16) := by kernel_rfl
def strCells (l : List (List UInt8)) : List Value := l.map fun x => .string (bs x)
/-- what a slice of strings that the call appended to gives to strings.Join -/
theorem sjoin_any (w : World) (B : Nat) (v : Value) (xs : List (List UInt8)) (hown : w.ownsRow B 9 1 v xs.length (strCells xs)) (hn : xs.length ≤ 1000000000) (hm : (Lib.join xs [32]).length ≤ 140737488355328) :
    Calls Tryd.prog 32 #[v, .string ⟨#[32]⟩] w (OutB w (.string (bs (Lib.join xs [32])))) := by
  have hx : (xs.map bs).map (·.data.toList) = xs := by rw [List.map_map]; exact List.map_id'' (fun x => toList_bs x) xs
  cases xs with
  | nil =>
    obtain ⟨c, g, rfl⟩ : ∃ c g, v = .slice g 0 c := by
      rcases hown.2 with ⟨hv, _⟩ | ⟨g, cap, cur, hv, _⟩
      · exact ⟨_, _, hv⟩
      · exact ⟨_, _, hv⟩
    exact (strings_Join_none g c ⟨#[32]⟩ w).mono fun e w' h => ⟨h.1, by rw [h.2]; exact Below.refl _ _⟩
  | cons x r =>
    obtain ⟨g, cap, rfl, _, hlt⟩ := hown.form (by simp)
    have hcap : (x :: r).length ≤ cap := by
      rcases hown.2 with ⟨hv, _⟩ | ⟨g', cap', cur, hv, _, _, hc, _⟩
      · cases hv
      · injection hv with _ _ hc2
        omega
    have hc := hown.cells (g := g) rfl
    have := strings_Join g 0 cap ((x :: r).map bs) ⟨#[32]⟩ w (fun j y hy => by
      have h1 := hc j (.string y) (by unfold strCells; rw [List.getElem?_map] at hy ⊢; cases hz : (x :: r)[j]? with | none => rw [hz] at hy; simp at hy | some z => rw [hz] at hy; simp at hy ⊢; exact hy)
      rw [Nat.zero_add]
      have hadd : (⟨g, 0, none⟩ : Addr).add j = ⟨g, j, none⟩ := by unfold Addr.add; split <;> simp_all
      rwa [hadd] at h1) hlt (by simp at hn ⊢; omega) (by simpa using hcap) (by rw [hx]; exact hm)
    rw [hx, List.length_map] at this
    exact this

set_option maxHeartbeats 4000000 in
set_option maxRecDepth 100000 in
theorem join_any (w : World) (A : Option Addr) (ca : Nat) (l : List Tok) (hl : (l.length : Int) ≤ 1000000000) (ha : TkJ w A l) (hm : (joinF l).length ≤ 140737488355328) :
    Calls Tryd.prog 16 #[.slice A l.length ca] w (OutB w (.string (bs (joinF l)))) := by
  obtain ⟨i0, hi0, hz0, hz1, hz2⟩ := info_parts infoStr
  have HA := Lib.hid ha
  have HM := Lib.hid hm
  have HI0 := Lib.hid hi0
  have HZ0 := Lib.hid hz0
  have HZ1 := Lib.hid hz1
  have HZ2 := Lib.hid hz2
  clear ha hm hi0 hz0 hz1 hz2
  go_enter Tryd.func16, Tryd.ntmps16
  go_wp2_with fail
  go_loopw [3, 8] (fun v i wr => ∃ k : Nat, k ≤ l.length ∧ i = .int .i64 k ∧ Hid (wr.ownsRow w.heap.size 9 1 v (textsF (l.take k)).length (strCells (textsF (l.take k))) ∧ Below w.heap.size w wr)) (fun _ i _ => l.length - (intOf i).toNat)
  case atStart => exact ⟨0, Nat.zero_le _, rfl, World.ownsRow_nil _ _ _ _, Below.refl _ _⟩
  case round =>
    obtain ⟨k, hk, rfl, HI⟩ := hrel
    by_cases hlk : k < l.length
    rotate_left
    focus
      obtain rfl : k = l.length := by omega
      rw [List.take_length] at HI
      have hlen : (textsF l).length ≤ 1000000000 := by
        have : (textsF l).length ≤ l.length := by unfold textsF; rw [List.length_map]; exact List.length_filter_le _ _
        omega
      have HJ := Lib.hid (sjoin_any wr w.heap.size _ (textsF l) HI.out.1 hlen HM.out)
      clear hlen
      go_wp2_with fail
      refine HJ.out.mono ?_
      rintro e9 w9 ⟨rfl, hb⟩
      have HE := Lib.hid (HI.out.2.trans (hb.mono HI.out.2.size))
      clear hb HJ
      go_wp2_with fail
      go_ret
      exact ⟨rfl, HE.out⟩
    obtain ⟨b, o, kd, tx, ps, rfl, hbl, hlf, p0, p1, p2⟩ := (HA.out.keep HI.out.2).at k hlk
    have hstep := textsF_take hlk
    rw [hlf.1, hlf.2] at hstep
    clear hlf
    have hal := Lib.hid ((Below.refl wr.heap.size wr).alloc (Nat.le_refl _) (.cells #[.int .i64 kd, .string (bs tx), .int .i64 ps] 30))
    by_cases hz : kd = 0
    focus
      subst hz
      simp only [bne_self_eq_false, Bool.false_eq_true, if_false, List.append_nil] at hstep
      have HST := Lib.hid hstep
      have HO := Lib.hid (HI.out.1.alloc (.cells #[.int .i64 0, .string (bs tx), .int .i64 ps] 30))
      clear hstep
      go_wp2_with fail
      go_roundw
      case rel => exact ⟨k + 1, by omega, by go_num, by rw [HST.out]; exact HO.out, HI.out.2.trans (hal.out.mono HI.out.2.size)⟩
      case measure => simp [intOf]; omega
    have hk1 : (kd == 0) = false := beq_eq_false_iff_ne.2 hz
    have hk2 : (kd != 0) = true := bne_iff_ne.2 hz
    rw [if_pos hk2] at hstep
    have HST := Lib.hid hstep
    have HO := Lib.hid ((HI.out.1.alloc (.cells #[.int .i64 kd, .string (bs tx), .int .i64 ps] 30)).alloc (.cells #[.string (bs tx)] 9))
    have HB := Lib.hid (HI.out.2.trans (hal.out.mono HI.out.2.size))
    have hlen : (textsF (l.take k)).length ≤ 1000000000 := by
      have h1 : (textsF (l.take k)).length ≤ (l.take k).length := by unfold textsF; rw [List.length_map]; exact List.length_filter_le _ _
      have h2 := List.length_take_le k l
      omega
    have hsz : w.heap.size ≤ wr.heap.size := HI.out.2.size
    clear hstep hz
    generalize hn : (textsF (l.take k)).length = n at *
    have HN := Lib.hid hn
    clear hn
    generalize hbt : bs tx = bt at *
    have HBT := Lib.hid hbt
    clear hbt
    go_wp2_with (at_builtin; refine wpList_append_own _ rfl _ _ 45 rfl w.heap.size 9 i0 (.string ⟨#[]⟩) 1 16 Tryd.underlying45 HI0.out HZ0.out HZ1.out HZ2.out rfl (by decide) _ _ _ rfl HO.out ⟨wr.heap.size + 1, 0, none⟩ 1 1 [.string bt] rfl rfl ?c1 ?c2 ?c3 ?c4 ?c5 ?_)
    try (case c1 =>
      intro j u hj
      match j, hj with
      | 0, hj => simp at hj; subst hj; simp [Addr.add])
    case c2 => first | rfl | (intro u hu; simp at hu; subst hu; rfl)
    case c3 => unfold maxLen; omega
    case c4 => omega
    case c5 => first | omega | (simp; omega)
    intro v' w1 hown' hgrow _
    have HO1 := Lib.hid hown'
    have HB1 := Lib.hid ((HB.out.alloc (by simp; omega) (.cells #[.string bt] 9)).grown hgrow (by simp; omega) (fun k hk => (HO.out.lt k hk).1))
    clear hown' hgrow
    go_wp2_with fail
    go_roundw
    case rel =>
      refine ⟨k + 1, by omega, by go_num, ?_, HB1.out⟩
      rw [HST.out, List.length_append, HN.out]
      unfold strCells at *
      rw [List.map_append, List.map_cons, List.map_nil, HBT.out]
      exact HO1.out
    case measure => simp [intOf]; omega
end Go.Proofs.YtmpdnmnimdkfnaaDoor
