/- Merged texts: gameplayerlaw06.awake: the examples of the chapter. gameplayerlaw06.awake returns true. -/
import Derived.Test.YthkbnjojkeeffaaDoorXk
namespace Go.Proofs.YthkbnjojkeeffaaDoor
/- gameplayerlaw06.awake: the examples of the chapter. -/
section
open Go Go.RowKit Go.Shelf
set_option linter.unusedSimpArgs false

theorem tm_nil (w : World) (P : Nat → Prop) (nm : List UInt8) (cp : Nat) : TmV w P [.string (bs nm), .slice none 0 cp] (.mk nm []) :=
  .mk nm none cp [] [] rfl (fun h => absurd h (by simp)) (fun i x t h => by simp at h)
theorem slv_of {α : Type} {R : Rdr α} {sz : Nat} {w : World} {P : Nat → Prop} {b : Nat} {cs : Array Value} {t : TypeId} {l : List α} (xs : List (List Value)) (h : w.heap[b]? = some (.cells cs t (0, 0))) (hp : P b) (hl : xs.length = l.length)
    (hc : ∀ (i : Nat) (x : List Value), xs[i]? = some x → ∀ (j : Nat) (u : Value), x[j]? = some u → cs[i * sz + j]? = some u) (hr : ∀ (i : Nat) (x : List Value) (a : α), xs[i]? = some x → l[i]? = some a → R w P x a) : SlV R sz w P (some ⟨b, 0, none⟩) l :=
  ⟨xs, hl, fun _ => ⟨b, 0, rfl, hp, (Array.getElem?_eq_some_iff.1 h).1, fun i x hx j u hu => by rw [Nat.zero_add]; exact (cell_of_row w b (i * sz + j) cs t (0, 0) h).trans (hc i x hx j u hu)⟩, hr⟩
theorem slv_nil {α : Type} {R : Rdr α} {sz : Nat} {w : World} {P : Nat → Prop} : SlV R sz w P none ([] : List α) :=
  ⟨[], rfl, fun h => absurd h (by simp), fun i x a h => by simp at h⟩
def aX : Tm := .mk [88] []
def aP : Tm := .mk [112] [aX]
def aL : List Li := [⟨false, .mk [113] []⟩, ⟨true, aP⟩]
def aR : List Ru := [⟨aP, aL⟩, ⟨aP, []⟩]
/-- the example's blocks -/
structure ExW (w : World) (n : Nat) : Prop where
  a : w.heap[n]? = some (.cells #[.string ⟨#[88]⟩, .slice none 0 0] 24 (0, 0))
  l : w.heap[n + 1 + 1]? = some (.cells #[.bool false, .string ⟨#[113]⟩, .slice none 0 0, .bool true, .string ⟨#[112]⟩, .slice (some ⟨n, 0, none⟩) 1 1] 32 (0, 0))
  s : n + 1 + 1 < w.heap.size
theorem ExW.tm {w : World} {n : Nat} (h : ExW w n) {P : Nat → Prop} (hp : P n) : TmV w P [.string (bs [112]), .slice (some ⟨n, 0, none⟩) 1 1] aP := by
  have hs : SlV TmV 2 w P (some ⟨n, 0, none⟩) [aX] := slv_of [[.string ⟨#[88]⟩, .slice none 0 0]] h.a hp rfl (fun i x hx j u hu => by
    match i, hx with
    | 0, hx =>
      simp at hx
      subst hx
      match j, hu with
      | 0, hu => simpa using hu
      | 1, hu => simpa using hu) (fun i x a hx ha => by
    match i, hx, ha with
    | 0, hx, ha =>
      simp at hx ha
      subst hx
      subst ha
      exact tm_nil w P [88] 0)
  obtain ⟨xs, h1, h2, h3⟩ := hs
  exact .mk [112] (some ⟨n, 0, none⟩) 1 [aX] xs h1 h2 h3
theorem ExW.li {w : World} {n : Nat} (h : ExW w n) {P : Nat → Prop} (hp : P n) (hp2 : P (n + 1 + 1)) : SlV LiV 3 w P (some ⟨n + 1 + 1, 0, none⟩) aL :=
  slv_of [[.bool false, .string ⟨#[113]⟩, .slice none 0 0], [.bool true, .string ⟨#[112]⟩, .slice (some ⟨n, 0, none⟩) 1 1]] h.l hp2 rfl (fun i x hx j u hu => by
    match i, hx with
    | 0, hx =>
      simp at hx
      subst hx
      match j, hu with
      | 0, hu => simpa using hu
      | 1, hu => simpa using hu
      | 2, hu => simpa using hu
    | 1, hx =>
      simp at hx
      subst hx
      match j, hu with
      | 0, hu => simpa using hu
      | 1, hu => simpa using hu
      | 2, hu => simpa using hu) (fun i x a hx ha => by
    match i, hx, ha with
    | 0, hx, ha =>
      simp [aL] at hx ha
      subst hx
      subst ha
      exact ⟨_, rfl, tm_nil w P [113] 0⟩
    | 1, hx, ha =>
      simp [aL] at hx ha
      subst hx
      subst ha
      exact ⟨_, rfl, h.tm hp⟩)
theorem aw_rules (w : World) (n : Nat) (h : ExW w n) (hr : w.heap[n + 1 + 1 + 1 + 1]? = some (.cells #[.string ⟨#[112]⟩, .slice (some ⟨n, 0, none⟩) 1 1, .slice (some ⟨n + 1 + 1, 0, none⟩) 2 2, .string ⟨#[112]⟩, .slice (some ⟨n, 0, none⟩) 1 1, .slice none 0 0] 27 (0, 0))) :
    Calls Tryd.prog 22 #[.slice (some ⟨n + 1 + 1 + 1 + 1, 0, none⟩) 2 2] w (OutB w (.tuple #[.string ⟨#[112, 40, 88, 41, 32, 105, 102, 32, 113, 32, 97, 110, 100, 32, 110, 111, 116, 32, 112, 40, 88, 41, 46, 10, 112, 40, 88, 41, 46, 10]⟩, .int .i64 0])) := by
  have hlt := (Array.getElem?_eq_some_iff.1 hr).1
  have hs : SlV RuV 3 w (· < w.heap.size) (some ⟨n + 1 + 1 + 1 + 1, 0, none⟩) aR := slv_of [[.string ⟨#[112]⟩, .slice (some ⟨n, 0, none⟩) 1 1, .slice (some ⟨n + 1 + 1, 0, none⟩) 2 2], [.string ⟨#[112]⟩, .slice (some ⟨n, 0, none⟩) 1 1, .slice none 0 0]] hr hlt rfl (fun i x hx j u hu => by
    match i, hx with
    | 0, hx =>
      simp at hx
      subst hx
      match j, hu with
      | 0, hu => simpa using hu
      | 1, hu => simpa using hu
      | 2, hu => simpa using hu
    | 1, hx =>
      simp at hx
      subst hx
      match j, hu with
      | 0, hu => simpa using hu
      | 1, hu => simpa using hu
      | 2, hu => simpa using hu) (fun i x a hx ha => by
    match i, hx, ha with
    | 0, hx, ha =>
      simp [aR] at hx ha
      subst hx
      subst ha
      exact ⟨_, _, _, rfl, h.tm (by omega), h.li (by omega) (by omega)⟩
    | 1, hx, ha =>
      simp [aR] at hx ha
      subst hx
      subst ha
      exact ⟨[_, _], _, _, rfl, h.tm (by omega), slv_nil⟩)
  have hw : ∀ r ∈ aR, RuB r := fun r hr => by
    simp only [aR, List.mem_cons, List.not_mem_nil, or_false] at hr
    rcases hr with rfl | rfl <;> exact (ruw_of (by decide)).rub
  have := prules_any w (· < w.heap.size) (some ⟨n + 1 + 1 + 1 + 1, 0, none⟩) 2 aR hs (fun b hb => hb) (by decide) hw
  rw [show rulesO aR = ([112, 40, 88, 41, 32, 105, 102, 32, 113, 32, 97, 110, 100, 32, 110, 111, 116, 32, 112, 40, 88, 41, 46, 10, 112, 40, 88, 41, 46, 10], 0) by kernel_rfl] at this
  exact this
theorem aw_bad (w : World) (n : Nat) (hr : w.heap[n]? = some (.cells #[.string ⟨#[88]⟩, .slice none 0 0, .slice none 0 0] 27 (0, 0))) :
    Calls Tryd.prog 22 #[.slice (some ⟨n, 0, none⟩) 1 1] w (OutB w (.tuple #[.string ⟨#[]⟩, .int .i64 13])) := by
  have hlt := (Array.getElem?_eq_some_iff.1 hr).1
  have hs : SlV RuV 3 w (· < w.heap.size) (some ⟨n, 0, none⟩) [⟨aX, []⟩] := slv_of [[.string ⟨#[88]⟩, .slice none 0 0, .slice none 0 0]] hr hlt rfl (fun i x hx j u hu => by
    match i, hx with
    | 0, hx =>
      simp at hx
      subst hx
      match j, hu with
      | 0, hu => simpa using hu
      | 1, hu => simpa using hu
      | 2, hu => simpa using hu) (fun i x a hx ha => by
    match i, hx, ha with
    | 0, hx, ha =>
      simp at hx ha
      subst hx
      subst ha
      exact ⟨[_, _], _, _, rfl, tm_nil w _ [88] 0, slv_nil⟩)
  have hw : ∀ r ∈ [(⟨aX, []⟩ : Ru)], RuB r := fun r hr => by
    rw [List.mem_singleton] at hr
    subst hr
    exact (ruw_of (by decide)).rub
  have := prules_any w (· < w.heap.size) (some ⟨n, 0, none⟩) 1 [⟨aX, []⟩] hs (fun b hb => hb) (by decide) hw
  rw [show rulesO [⟨aX, []⟩] = ([], 13) by kernel_rfl] at this
  exact this
def aS : Array UInt8 := #[112, 32, 40, 32, 88, 32, 41, 105, 102, 10, 113, 40, 88, 41, 32, 46, 32, 35, 32, 99]
theorem aw_parsed : parseF aS.toList = .ok [⟨aP, [⟨false, .mk [113] [aX]⟩]⟩] := by kernel_rfl
theorem aw_format (w : World) (hw : Wd w) : Calls Tryd.prog 24 #[.string ⟨#[112, 32, 40, 32, 88, 32, 41, 105, 102, 10, 113, 40, 88, 41, 32, 46, 32, 35, 32, 99]⟩] w (OutB w (.tuple #[.string ⟨#[112, 40, 88, 41, 32, 105, 102, 32, 113, 40, 88, 41, 46, 10]⟩, .int .i64 0, .int .i64 0])) := by
  have := format_any w ⟨aS⟩ (by decide) hw (fun l hl => by
    rw [show parseF (⟨aS⟩ : ByteArray).data.toList = _ from aw_parsed] at hl
    injection hl with hl
    subst hl
    refine ⟨by decide, fun r hr => ?_⟩
    rw [List.mem_singleton] at hr
    subst hr
    exact (ruw_of (by decide)).rub) (fun p k hl => by
    rw [show parseF (⟨aS⟩ : ByteArray).data.toList = _ from aw_parsed] at hl
    cases hl)
  rw [show fmtO (⟨aS⟩ : ByteArray).data.toList = ([112, 40, 88, 41, 32, 105, 102, 32, 113, 40, 88, 41, 46, 10], 0, 0) by kernel_rfl] at this
  exact this
theorem aw_valid (w : World) (n : Nat) (h : ExW w n) : Calls Tryd.prog 20 #[.agg #[.string ⟨#[112]⟩, .slice (some ⟨n, 0, none⟩) 1 1, .slice (some ⟨n + 1 + 1, 0, none⟩) 2 2]] w (OutB w (.bool true)) := by
  have hs := h.s
  have hw : RuW ⟨aP, aL⟩ := ruw_of (by decide)
  have := rvalidx_any w (· < w.heap.size) [112] (some ⟨n, 0, none⟩) 1 [aX] (some ⟨n + 1 + 1, 0, none⟩) 2 aL (h.tm (by omega)) (h.li (by omega) (by omega)) (fun b hb => hb) hw.tmb (by decide) hw.tmbs
  rw [show ruleOk ⟨.mk [112] [aX], aL⟩ = true by kernel_rfl] at this
  exact this
theorem aw_terms (w : World) (n m : Nat) (h : ExW w n) (hr : w.heap[m]? = some (.cells #[.string ⟨#[112]⟩, .slice (some ⟨n, 0, none⟩) 1 1, .string ⟨#[112]⟩, .slice (some ⟨n, 0, none⟩) 1 1] 24 (0, 0))) :
    Calls Tryd.prog 18 #[.slice (some ⟨m, 0, none⟩) 2 2] w (OutB w (.string ⟨#[112, 40, 88, 41, 44, 32, 112, 40, 88, 41]⟩)) := by
  have hlt := (Array.getElem?_eq_some_iff.1 hr).1
  have hss := h.s
  have hs : SlV TmV 2 w (· < w.heap.size) (some ⟨m, 0, none⟩) [aP, aP] := slv_of [[.string ⟨#[112]⟩, .slice (some ⟨n, 0, none⟩) 1 1], [.string ⟨#[112]⟩, .slice (some ⟨n, 0, none⟩) 1 1]] hr hlt rfl (fun i x hx j u hu => by
    match i, hx with
    | 0, hx =>
      simp at hx
      subst hx
      match j, hu with
      | 0, hu => simpa using hu
      | 1, hu => simpa using hu
    | 1, hx =>
      simp at hx
      subst hx
      match j, hu with
      | 0, hu => simpa using hu
      | 1, hu => simpa using hu) (fun i x a hx ha => by
    match i, hx, ha with
    | 0, hx, ha =>
      simp at hx ha
      subst hx
      subst ha
      exact h.tm (by omega)
    | 1, hx, ha =>
      simp at hx ha
      subst hx
      subst ha
      exact h.tm (by omega))
  have := terms_text w (· < w.heap.size) (some ⟨m, 0, none⟩) 2 [aP, aP] (by decide) hs (fun b hb => hb) (fun t ht => by
    simp at ht
    subst ht
    decide) (by decide)
  rw [show Lib.join (txs [aP, aP]) [44, 32] = [112, 40, 88, 41, 44, 32, 112, 40, 88, 41] by kernel_rfl] at this
  exact this

end
/- gameplayerlaw06.awake returns true. -/
section
open Go Go.RowKit Go.Shelf
set_option linter.unusedSimpArgs false

theorem five_box (w : World) (o1 o2 o3 o4 o5 : Obj) : Below w.heap.size w (((((w.alloc o1).alloc o2).alloc o3).alloc o4).alloc o5) ∧
    (((((w.alloc o1).alloc o2).alloc o3).alloc o4).alloc o5).heap[w.heap.size]? = some o1 ∧ (((((w.alloc o1).alloc o2).alloc o3).alloc o4).alloc o5).heap[w.heap.size + 1]? = some o2 ∧
    (((((w.alloc o1).alloc o2).alloc o3).alloc o4).alloc o5).heap[w.heap.size + 1 + 1]? = some o3 ∧ (((((w.alloc o1).alloc o2).alloc o3).alloc o4).alloc o5).heap[w.heap.size + 1 + 1 + 1]? = some o4 ∧
    (((((w.alloc o1).alloc o2).alloc o3).alloc o4).alloc o5).heap[w.heap.size + 1 + 1 + 1 + 1]? = some o5 := by
  have s2 : ((w.alloc o1).alloc o2).heap.size = w.heap.size + 1 + 1 := by simp
  have s4 : ((((w.alloc o1).alloc o2).alloc o3).alloc o4).heap.size = w.heap.size + 1 + 1 + 1 + 1 := by simp
  have a := two_box w o1 o2
  have b := two_box ((w.alloc o1).alloc o2) o3 o4
  have c := one_box ((((w.alloc o1).alloc o2).alloc o3).alloc o4) o5
  rw [s2] at b
  rw [s4] at c
  refine ⟨a.1.trans ((b.1.mono (by omega)).trans (c.1.mono (by omega))), (c.1.block _ (by omega)).trans ((b.1.block _ (by omega)).trans a.2.1), (c.1.block _ (by omega)).trans ((b.1.block _ (by omega)).trans a.2.2), (c.1.block _ (by omega)).trans b.2.1, (c.1.block _ (by omega)).trans b.2.2, c.2⟩
/-- the example's blocks, with those of its two variables -/
structure ExV (w0 w : World) (n : Nat) : Prop where
  e : ExW w n
  x : w.heap[n + 1]? = some (.cells #[.string ⟨#[112]⟩, .slice (some ⟨n, 0, none⟩) 1 1] 24 (0, 0))
  r : w.heap[n + 1 + 1 + 1]? = some (.cells #[.string ⟨#[112]⟩, .slice (some ⟨n, 0, none⟩) 1 1, .slice (some ⟨n + 1 + 1, 0, none⟩) 2 2] 27 (0, 0))
  d : Below n w0 w
theorem ExV.below {w0 w w' : World} {n : Nat} (h : ExV w0 w n) (hb : Below w.heap.size w w') : ExV w0 w' n := by
  have h1 := (Array.getElem?_eq_some_iff.1 h.e.a).1
  have h2 := h.e.s
  have h3 := (Array.getElem?_eq_some_iff.1 h.r).1
  exact ⟨⟨(hb.block _ h1).trans h.e.a, (hb.block _ h2).trans h.e.l, Nat.lt_of_lt_of_le h2 hb.size⟩, (hb.block _ (by omega)).trans h.x, (hb.block _ h3).trans h.r, h.d.trans (hb.mono (by omega))⟩
set_option maxHeartbeats 8000000 in
set_option maxRecDepth 100000 in
theorem awake_any (w : World) (hw : Wd w) : Calls Tryd.prog 12 #[] w (YesP w) := by
  have HW := Lib.hid hw
  clear hw
  have hf := five_box w (.cells #[.string ⟨#[88]⟩, .slice none 0 0] 24) (.cells #[.string ⟨#[112]⟩, .slice (some ⟨w.heap.size, 0, none⟩) 1 1] 24)
    (.cells #[.bool false, .string ⟨#[113]⟩, .slice none 0 0, .bool true, .string ⟨#[112]⟩, .slice (some ⟨w.heap.size, 0, none⟩) 1 1] 32)
    (.cells #[.string ⟨#[112]⟩, .slice (some ⟨w.heap.size, 0, none⟩) 1 1, .slice (some ⟨w.heap.size + 1 + 1, 0, none⟩) 2 2] 27)
    (.cells #[.string ⟨#[112]⟩, .slice (some ⟨w.heap.size, 0, none⟩) 1 1, .slice (some ⟨w.heap.size + 1 + 1, 0, none⟩) 2 2, .string ⟨#[112]⟩, .slice (some ⟨w.heap.size, 0, none⟩) 1 1, .slice none 0 0] 27)
  have HF := Lib.hid hf
  clear hf
  go_enter Tryd.func12, Tryd.ntmps12
  go_wp2_with fail
  generalize (((((w.alloc (.cells #[.string ⟨#[88]⟩, .slice none 0 0] 24)).alloc (.cells #[.string ⟨#[112]⟩, .slice (some ⟨w.heap.size, 0, none⟩) 1 1] 24)).alloc
    (.cells #[.bool false, .string ⟨#[113]⟩, .slice none 0 0, .bool true, .string ⟨#[112]⟩, .slice (some ⟨w.heap.size, 0, none⟩) 1 1] 32)).alloc
    (.cells #[.string ⟨#[112]⟩, .slice (some ⟨w.heap.size, 0, none⟩) 1 1, .slice (some ⟨w.heap.size + 1 + 1, 0, none⟩) 2 2] 27)).alloc
    (.cells #[.string ⟨#[112]⟩, .slice (some ⟨w.heap.size, 0, none⟩) 1 1, .slice (some ⟨w.heap.size + 1 + 1, 0, none⟩) 2 2, .string ⟨#[112]⟩, .slice (some ⟨w.heap.size, 0, none⟩) 1 1, .slice none 0 0] 27)) = w0 at *
  have HV0 : Hid (ExV w w0 w.heap.size) := ⟨⟨HF.out.2.1, HF.out.2.2.2.1, (Array.getElem?_eq_some_iff.1 HF.out.2.2.2.1).1⟩, HF.out.2.2.1, HF.out.2.2.2.2.1, HF.out.1⟩
  refine (aw_rules w0 w.heap.size HV0.out.e HF.out.2.2.2.2.2).mono ?_
  rintro e w1 ⟨rfl, hb⟩
  have HV1 := Lib.hid (HV0.out.below hb)
  have HW1 := Lib.hid (HW.out.below HV1.out.d HW.out.1)
  clear hb HV0 HF HW
  generalize hn : w.heap.size = n at *
  go_wp2_with fail
  refine (aw_format w1 HW1.out).mono ?_
  rintro e w2 ⟨rfl, hb⟩
  have HV2 := Lib.hid (HV1.out.below hb)
  clear hb HV1 HW1
  go_wp2_with fail
  have HB3 := Lib.hid (one_box w2 (.cells #[.string ⟨#[88]⟩, .slice none 0 0, .slice none 0 0] 27))
  have HV3 := Lib.hid (HV2.out.below HB3.out.1)
  clear HV2
  generalize w2.alloc (.cells #[.string ⟨#[88]⟩, .slice none 0 0, .slice none 0 0] 27) = w3 at *
  refine (aw_bad w3 _ HB3.out.2).mono ?_
  rintro e w4 ⟨rfl, hb⟩
  have HV4 := Lib.hid (HV3.out.below hb)
  clear hb HV3 HB3
  have x0 := cell_blk HV4.out.x 0
  have x1 := cell_blk HV4.out.x 1
  have r0 := cell_blk HV4.out.r 0
  have r1 := cell_blk HV4.out.r 1
  have r2 := cell_blk HV4.out.r 2
  go_wp2_with fail
  clear x0 x1 r0 r1 r2
  refine (aw_valid w4 n HV4.out.e).mono ?_
  rintro e w5 ⟨rfl, hb⟩
  have HV5 := Lib.hid (HV4.out.below hb)
  clear hb HV4
  have x0 := cell_blk HV5.out.x 0
  have x1 := cell_blk HV5.out.x 1
  go_wp2_with fail
  clear x0 x1
  have HB6 := Lib.hid (one_box w5 (.cells #[.string ⟨#[112]⟩, .slice (some ⟨n, 0, none⟩) 1 1, .string ⟨#[112]⟩, .slice (some ⟨n, 0, none⟩) 1 1] 24))
  have HV6 := Lib.hid (HV5.out.below HB6.out.1)
  clear HV5
  generalize w5.alloc (.cells #[.string ⟨#[112]⟩, .slice (some ⟨n, 0, none⟩) 1 1, .string ⟨#[112]⟩, .slice (some ⟨n, 0, none⟩) 1 1] 24) = w6 at *
  refine (aw_terms w6 n _ HV6.out.e HB6.out.2).mono ?_
  rintro e w7 ⟨rfl, hb⟩
  have HV7 := Lib.hid (HV6.out.below hb)
  clear hb HV6 HB6
  go_wp2_with fail
  go_ret
  refine ⟨rfl, ?_⟩
  rw [hn]
  exact HV7.out.d

end
end Go.Proofs.YthkbnjojkeeffaaDoor
