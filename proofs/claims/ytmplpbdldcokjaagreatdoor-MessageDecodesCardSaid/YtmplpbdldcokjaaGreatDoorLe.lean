/- The walk of lexer.Lex: what it returns is lexF of the bytes. -/
import Derived.Test.YtmplpbdldcokjaaGreatDoorX3
import Derived.Laws.StandIn
namespace Go.Proofs.YtmplpbdldcokjaaGreatDoor
open Go Go.RowKit

theorem sym_idx_all : ∀ n : Nat, n < 256 → decide (0 ≤ firstIdx ⟨#[40, 41, 44, 46]⟩ n.toUInt8) = symB (n : Int) := by decide +kernel
theorem sym_idx (c : UInt8) : decide (0 ≤ firstIdx ⟨#[40, 41, 44, 46]⟩ (bInt c).toNat.toUInt8) = symB (bInt c) :=
  sym_idx_all c.toNat c.toNat_lt
/-- what strings.IndexByte gives for the four symbols -/
def symIdx (c : Int) : Int := firstIdx ⟨#[40, 41, 44, 46]⟩ c.toNat.toUInt8

set_option maxHeartbeats 400000 in
theorem indexByte_any (w : World) (c : Int) :
    Calls Tryz.prog 46 #[.string ⟨#[40, 41, 44, 46]⟩, .int .u8 c] w fun e w' => e = .returned (.int .i64 (symIdx c)) ∧ w = w' := by
  have hx : ∀ (w : World), (callFunc 88 #[.string ⟨#[40, 41, 44, 46]⟩, .int .u8 c]).run Tryz.prog w = .ok (.value (.int .i64 (symIdx c))) w := fun w => by
    rw [run_callFunc_indexByte Tryz.func88 (by kernel_rfl) (by kernel_rfl) (by kernel_rfl) (by kernel_rfl), run_indexByte_string]
    rfl
  go_enter Tryz.func46, Tryz.ntmps46
  go_wp2
  go_ret
  exact ⟨rfl, rfl⟩

/-- the state at the head of the loop: 'out' holds the tokens of the first k bytes, and what is left gives the rest -/
def LexInv (w wr : World) (s : ByteArray) (k : Nat) : Prop :=
  ∃ (acc : List Tok) (v : Value) (f : Nat), k ≤ s.size ∧ acc.length ≤ k ∧ s.size - k < f ∧
    LexSt wr w.heap.size (w.heap.size + 1) w.heap.size s v acc.length (toksCells acc) ∧ Below w.heap.size w wr ∧
    lexGo (s.size + 1) 0 s.data.toList = (lexGo f k (s.data.toList.drop k)).pre acc

theorem LexInv.below {w wr w' : World} {s : ByteArray} {k : Nat} (h : LexInv w wr s k) (hb : Below wr.heap.size wr w') : LexInv w w' s k := by
  obtain ⟨acc, v, f, h1, h2, h3, h4, h5, h6⟩ := h
  exact ⟨acc, v, f, h1, h2, h3, h4.below hb, h5.trans (hb.mono h5.size), h6⟩

/-- what the round sees of what is left -/
theorem LexInv.open_ {w wr : World} {s : ByteArray} {k : Nat} (h : LexInv w wr s k) (hk : k < s.size) :
    ∃ (acc : List Tok) (v : Value) (f : Nat), acc.length ≤ k ∧ s.size - k < f + 1 ∧
      LexSt wr w.heap.size (w.heap.size + 1) w.heap.size s v acc.length (toksCells acc) ∧ Below w.heap.size w wr ∧
      lexGo (s.size + 1) 0 s.data.toList = (lexGo (f + 1) k (s[k] :: s.data.toList.drop (k + 1))).pre acc := by
  obtain ⟨acc, v, f, h1, h2, h3, h4, h5, h6⟩ := h
  cases f with
  | zero => omega
  | succ f => exact ⟨acc, v, f, h2, h3, h4, h5, by rw [h6, drop_cons s k hk]⟩

theorem LexInv.blank {w wr : World} {s : ByteArray} {k : Nat} (h : LexInv w wr s k) (hk : k < s.size) (hb : blankB (bInt s[k]) = true) : LexInv w wr s (k + 1) := by
  obtain ⟨acc, v, f, h2, h3, h4, h5, h6⟩ := h.open_ hk
  exact ⟨acc, v, f, by omega, by omega, by omega, h4, h5, by rw [h6, lexGo_blank _ _ _ _ hb]⟩

theorem spanL_cons (p : UInt8 → Bool) (s : ByteArray) (k : Nat) (hk : k < s.size) : ((s[k] :: s.data.toList.drop (k + 1)).takeWhile p).length = spanL p (s.data.toList.drop k) := by
  rw [← drop_cons s k hk]; rfl
theorem dropSpan (p : UInt8 → Bool) (s : ByteArray) (k : Nat) (hk : k < s.size) : (s[k] :: s.data.toList.drop (k + 1)).dropWhile p = s.data.toList.drop (k + spanL p (s.data.toList.drop k)) := by
  rw [← drop_cons s k hk, dropWhile_drop, List.drop_drop]; rfl
theorem takeSpan (p : UInt8 → Bool) (s : ByteArray) (k : Nat) (hk : k < s.size) : bs ((s[k] :: s.data.toList.drop (k + 1)).takeWhile p) = s.extract k (k + spanL p (s.data.toList.drop k)) := by
  rw [← drop_cons s k hk, takeWhile_take, extract_bs]
  congr 2
  unfold spanL
  omega
theorem spanL_pos (p : UInt8 → Bool) (s : ByteArray) (k : Nat) (hk : k < s.size) (hp : p s[k] = true) : 0 < spanL p (s.data.toList.drop k) := by
  rw [span_yes s k hk hp]; omega

theorem LexInv.hash {w wr : World} {s : ByteArray} {k : Nat} (h : LexInv w wr s k) (hk : k < s.size) (hb : blankB (bInt s[k]) = false) (hh : (bInt s[k] == 35) = true) :
    LexInv w wr s (k + spanL (fun c => noLf (bInt c)) (s.data.toList.drop k)) ∧ k < k + spanL (fun c => noLf (bInt c)) (s.data.toList.drop k) := by
  obtain ⟨acc, v, f, h2, h3, h4, h5, h6⟩ := h.open_ hk
  have hle := span_le (p := fun c => noLf (bInt c)) s k (by omega)
  have hpos := spanL_pos (fun c => noLf (bInt c)) s k hk (by
    have h35 : bInt s[k] = 35 := beq_iff_eq.1 hh
    show noLf (bInt s[k]) = true
    rw [h35]; rfl)
  refine ⟨⟨acc, v, f, hle, by omega, by omega, h4, h5, ?_⟩, by omega⟩
  rw [h6, lexGo_hash _ _ _ _ hb hh, dropSpan _ s k hk, spanL_cons _ s k hk]

/-- a byte that ends the walk with an error -/
theorem LexInv.bad {w wr : World} {s : ByteArray} {k : Nat} (h : LexInv w wr s k) (hk : k < s.size) (hb : blankB (bInt s[k]) = false) (hh : (bInt s[k] == 35) = false) (hr : runB (bInt s[k]) = false) (hs : symB (bInt s[k]) = false) :
    lexGo (s.size + 1) 0 s.data.toList = .err k 1 := by
  obtain ⟨acc, v, f, h2, h3, h4, h5, h6⟩ := h.open_ hk
  rw [h6, lexGo_bad _ _ _ _ hb hh hr hs]; rfl
/-- the run at k -/
def runAt (s : ByteArray) (k : Nat) : Nat := k + spanL (fun c => runB (bInt c)) (s.data.toList.drop k)
theorem run_text (s : ByteArray) (k : Nat) (hk : k < s.size) : (s.extract k (runAt s k)).data.toList = (s[k] :: s.data.toList.drop (k + 1)).takeWhile (fun c => runB (bInt c)) := by
  unfold runAt
  rw [← takeSpan _ s k hk]; rfl
theorem LexInv.badRun {w wr : World} {s : ByteArray} {k : Nat} (h : LexInv w wr s k) (hk : k < s.size) (hb : blankB (bInt s[k]) = false) (hh : (bInt s[k] == 35) = false) (hr : runB (bInt s[k]) = true) (hs : kindF (s.extract k (runAt s k)).data.toList = 0) :
    lexGo (s.size + 1) 0 s.data.toList = .err k 4 := by
  obtain ⟨acc, v, f, h2, h3, h4, h5, h6⟩ := h.open_ hk
  rw [run_text s k hk] at hs
  rw [h6, lexGo_badrun _ _ _ _ hb hh hr (by rw [hs]; rfl)]; rfl
theorem runAt_bd (s : ByteArray) (k : Nat) (hk : k < s.size) (hr : runB (bInt s[k]) = true) : k < runAt s k ∧ runAt s k ≤ s.size := by
  have := spanL_pos (fun c => runB (bInt c)) s k hk hr
  have := span_le (p := fun c => runB (bInt c)) s k (by omega)
  unfold runAt; omega

/-- the round adds a token -/
theorem LexInv.toAdd {w wr : World} {s : ByteArray} {k : Nat} (h : LexInv w wr s k) : ∃ (acc : List Tok) (v : Value), acc.length ≤ k ∧ LexSt wr w.heap.size (w.heap.size + 1) w.heap.size s v acc.length (toksCells acc) ∧ Below w.heap.size w wr ∧
    (∀ (hk : k < s.size) (hb : blankB (bInt s[k]) = false) (hh : (bInt s[k] == 35) = false) (w' : World) (g cap : Nat), Below w.heap.size wr w' →
      (∀ (_ : runB (bInt s[k]) = true) (_ : kindF (s.extract k (runAt s k)).data.toList ≠ 0),
        LexSt w' w.heap.size (w.heap.size + 1) w.heap.size s (.slice (some ⟨g, 0, none⟩) (acc.length + 1) cap) (acc.length + 1) (toksCells acc ++ [.int .i64 (kindF (s.extract k (runAt s k)).data.toList), .string (s.extract k (runAt s k)), .int .i64 k]) → LexInv w w' s (runAt s k)) ∧
      (∀ (_ : runB (bInt s[k]) = false) (_ : symB (bInt s[k]) = true),
        LexSt w' w.heap.size (w.heap.size + 1) w.heap.size s (.slice (some ⟨g, 0, none⟩) (acc.length + 1) cap) (acc.length + 1) (toksCells acc ++ [.int .i64 4, .string (s.extract k (k + 1)), .int .i64 k]) → LexInv w w' s (k + 1))) ∧
    (k = s.size → ∀ (w' : World) (g cap : Nat), Below w.heap.size wr w' →
        LexSt w' w.heap.size (w.heap.size + 1) w.heap.size s (.slice (some ⟨g, 0, none⟩) (acc.length + 1) cap) (acc.length + 1) (toksCells acc ++ [.int .i64 0, .string (s.extract k k), .int .i64 k]) →
        ∃ l, lexGo (s.size + 1) 0 s.data.toList = .ok l ∧ acc.length + 1 = l.length ∧ w'.ownsRow w.heap.size 118 3 (.slice (some ⟨g, 0, none⟩) (acc.length + 1) cap) (acc.length + 1) (toksCells l)) := by
  have h0 := h
  obtain ⟨acc, v, f, h1, h2, h3, h4, h5, h6⟩ := h
  refine ⟨acc, v, h2, h4, h5, fun hk hb hh w' g cap hbw => ⟨fun hr hkd hst => ?_, fun hr hsy hst => ?_⟩, fun hk w' g cap hbw hst => ?_⟩
  · have hbd := runAt_bd s k hk hr
    cases f with
    | zero => omega
    | succ f =>
      refine ⟨acc ++ [⟨kindF (s.extract k (runAt s k)).data.toList, (s.extract k (runAt s k)).data.toList, k⟩], .slice (some ⟨g, 0, none⟩) (acc.length + 1) cap, f, hbd.2, by rw [List.length_append]; simp only [List.length_cons, List.length_nil]; omega, by omega, ?_, h5.trans hbw, ?_⟩
      · rw [toksCells_snoc, List.length_append]
        exact hst
      · rw [h6, drop_cons s k hk, lexGo_run _ _ _ _ hb hh hr (by rw [← run_text s k hk]; simpa using hkd), pre_pre, dropSpan _ s k hk, spanL_cons _ s k hk, run_text s k hk]
        rfl
  · cases f with
    | zero => omega
    | succ f =>
      refine ⟨acc ++ [⟨4, [s[k]], k⟩], .slice (some ⟨g, 0, none⟩) (acc.length + 1) cap, f, by omega, by simp; omega, by omega, ?_, h5.trans hbw, ?_⟩
      · rw [toksCells_snoc, List.length_append]
        have he : s.extract k (k + 1) = bs [s[k]] := by
          rw [extract_bs, drop_cons s k hk]
          simp
        rw [he] at hst
        exact hst
      · rw [h6, drop_cons s k hk, lexGo_sym _ _ _ _ hb hh hr hsy, pre_pre]
  · cases f with
    | zero => omega
    | succ f =>
      refine ⟨acc ++ [⟨0, [], k⟩], ?_, by simp, ?_⟩
      · rw [h6, hk, List.drop_eq_nil_of_le (by simp), lexGo_nil]; rfl
      · rw [toksCells_snoc]
        have he : s.extract k k = bs [] := by rw [extract_bs]; simp
        rw [he] at hst
        exact hst.own

/-- what Lex returns, by what the spec says -/
def LexPost (w : World) (r : LexR) (e : Ending) (w' : World) : Prop :=
  Below w.heap.size w w' ∧ match r with
  | .ok l => ∃ g cap, e = .returned (.tuple #[.slice (some ⟨g, 0, none⟩) l.length cap, .int .i64 0, .int .i64 0]) ∧ w'.ownsRow w.heap.size 118 3 (.slice (some ⟨g, 0, none⟩) l.length cap) l.length (toksCells l)
  | .err p x => e = .returned (.tuple #[.slice none 0 0, .int .i64 p, .int .i64 x])

theorem blank_is {c : Int} {b : Bool} (h : blankB c = b) (w : World) : Calls Tryz.prog 120 #[.int .u8 c] w fun e w' => e = .returned (.bool b) ∧ w = w' := h ▸ blank_any w c
theorem inRun_is {c : Int} {b : Bool} (h : runB c = b) (w : World) : Calls Tryz.prog 123 #[.int .u8 c] w fun e w' => e = .returned (.bool b) ∧ w = w' := h ▸ inRun_any w c
theorem sym_is {c : Int} (w : World) : Calls Tryz.prog 46 #[.string ⟨#[40, 41, 44, 46]⟩, .int .u8 c] w fun e w' => e = .returned (.int .i64 (symIdx c)) ∧ w = w' := indexByte_any w c

set_option maxHeartbeats 4000000 in
set_option maxRecDepth 100000 in
theorem lex_any (w : World) (s : ByteArray) (hs : s.size ≤ 9223372036854775807) (hw : Wd w) :
    Calls Tryz.prog 95 #[.string s] w (LexPost w (lexF s.data.toList)) := by
  have hmf : ∀ (fn : Fn) (first cap : Array Value) (w : World), (Instr.makeFunc fn first cap).run Tryz.prog w = .ok (.func fn first cap) w := fun _ _ _ _ => rfl
  have hlen : s.data.toList.length = s.size := by simp
  by_cases hlong : (16384 : Int) < (s.size : Int)
  · have HF : Hid (lexF s.data.toList = .err 0 2) := by unfold Hid lexF; rw [if_pos (by omega)]
    clear hlen
    go_enter Tryz.func95, Tryz.ntmps95
    go_wp2_with fail
    go_ret3
    unfold LexPost
    rw [HF.out]
    exact ⟨(Below.refl _ _).alloc (Nat.le_refl _) _, rfl⟩
  · have HF : Hid (lexF s.data.toList = lexGo (s.size + 1) 0 s.data.toList) := by unfold Hid lexF; rw [if_neg (by omega), hlen]
    have hsz : s.size ≤ 16384 := by omega
    have hst : LexInv w ((w.alloc (.cells #[.string s] 9)).alloc (.cells #[.slice none 0 0] 109)) s 0 ∧ Wd ((w.alloc (.cells #[.string s] 9)).alloc (.cells #[.slice none 0 0] 109)) := by
      refine ⟨⟨[], .slice none 0 0, s.size + 1, Nat.zero_le _, Nat.le_refl _, by omega, ?_, ((Below.refl _ _).alloc (Nat.le_refl _) _).alloc (by simp) _, by rw [pre_nil]; rfl⟩, (hw.alloc _).alloc _⟩
      refine ⟨by simp, by simp; omega, by omega, by omega, ?_, ?_, ?_, World.ownsRow_nil _ _ _ _, by simp [Value.ownBlock], by simp [Value.ownBlock], by omega⟩
      · rw [World.cell?_alloc_at _ _ _ _ (by simp)]; rfl
      · rw [World.frozen?_alloc_at _ _ _ _ (by simp)]
      · rw [World.cell?_alloc_past _ _ _ (by simp), World.cell?_alloc_at _ _ _ _ rfl]; rfl
    have HST := Lib.hid hst
    have hw0 := hw.1
    clear hlen hst hw
    go_enter Tryz.func95, Tryz.ntmps95
    go_wp2_with fail
    go_loopw [7] (fun i wr => ∃ k : Nat, k ≤ s.size ∧ i = .int .i64 k ∧ Hid (LexInv w wr s k ∧ Wd wr)) (fun i _ => s.size - (intOf i).toNat)
    case atStart => exact ⟨0, Nat.zero_le _, rfl, HST⟩
    case round =>
      obtain ⟨k, hk, rfl, HI⟩ := hrel
      clear HST
      obtain ⟨acc, v, hacc, hl, hbel, hadd, hfin⟩ := HI.out.1.toAdd
      have csrc : wr.cell? ⟨w.heap.size, 0, none⟩ = some (.string s) := hl.src
      have hlsrc : w.heap.size < wr.heap.size := hl.ls
      have HL := Lib.hid hl; have HB := Lib.hid hbel; have HA := Lib.hid hadd; have HE := Lib.hid hfin
      clear hl hbel hadd hfin
      by_cases hlt : k < s.size
      · cases hbl : blankB (bInt s[k]) with
        | true =>
          have HN : Hid (LexInv w wr s (k + 1) ∧ Wd wr) := ⟨HI.out.1.blank hlt hbl, HI.out.2⟩
          have HC := Lib.hid (blank_is hbl)
          clear hbl
          go_wp2_with (go_at_call 120; refine (HC.out _).mono ?_; rintro e w' ⟨rfl, rfl⟩)
          go_roundw
          case rel => exact ⟨k + 1, by omega, by go_num, HN⟩
          case measure => simp [intOf]; omega
        | false =>
          have HC := Lib.hid (blank_is hbl)
          cases hh : (bInt s[k] == 35) with
          | true =>
            have HN : Hid ((LexInv w wr s (k + spanL (fun c => noLf (bInt c)) (s.data.toList.drop k)) ∧ k < k + spanL (fun c => noLf (bInt c)) (s.data.toList.drop k)) ∧ Wd wr) := ⟨HI.out.1.hash hlt hbl hh, HI.out.2⟩
            have hle := span_le (p := fun c => noLf (bInt c)) s k (by omega)
            have hlt2 := HN.out.1.2
            have hh' : (((s[k]).toNat : Int) == 35) = true := hh
            have HSK := Lib.hid (fun w => skipLf_any w s k hs hk)
            clear hbl hh
            generalize k + spanL (fun c => noLf (bInt c)) (s.data.toList.drop k) = k2 at *
            go_wp2_with (first | (go_at_call 120; refine (HC.out _).mono ?_; rintro e w' ⟨rfl, rfl⟩) | (go_at_call 121; refine (HSK.out _).mono ?_; rintro e w' ⟨rfl, rfl⟩))
            go_roundw
            case rel => exact ⟨k2, by omega, rfl, HN.out.1.1, HN.out.2⟩
            case measure => simp [intOf]; omega
          | false =>
            have hh' : (((s[k]).toNat : Int) == 35) = false := hh
            cases hr : runB (bInt s[k]) with
            | true =>
              have HR := Lib.hid (inRun_is hr)
              have HSK := Lib.hid (fun w => skipRun_any w s k hs hk)
              have hbd := runAt_bd s k hlt hr
              have hbd1 : (k : Int) ≤ (runAt s k : Int) := by omega
              have hbd2 : (runAt s k : Int) ≤ (s.size : Int) := by omega
              have hxs : (s.extract k (runAt s k)).size ≤ 9223372036854775807 := by rw [ByteArray.size_extract]; omega
              have HK := Lib.hid (kind_any wr (s.extract k (runAt s k)) hxs HI.out.2)
              have HBR : Hid (kindF (s.extract k (runAt s k)).data.toList = 0 → lexGo (s.size + 1) 0 s.data.toList = .err k 4) := fun hz => HI.out.1.badRun hlt hbl hh hr hz
              have HAD := Lib.hid (fun w' g cap hb => (HA.out hlt hbl hh w' g cap hb).1 hr)
              clear hbl hh hr hxs
              rw [show (k + spanL (fun c => runB (bInt c)) (s.data.toList.drop k)) = runAt s k from rfl] at HSK
              generalize runAt s k = k2 at *
              generalize hkd : kindF (s.extract k k2).data.toList = kd at *
              have HKD := Lib.hid hkd
              clear hkd
              by_cases hz : kd = 0
              · have hz' : (kd == 0) = true := by rw [hz]; rfl
                have HE2 := Lib.hid (HBR.out hz)
                clear hz
                go_wp2_with (first | (go_at_call 120; refine (HC.out _).mono ?_; rintro e w' ⟨rfl, rfl⟩) | (go_at_call 123; refine (HR.out _).mono ?_; rintro e w' ⟨rfl, rfl⟩) | (go_at_call 121; refine (HSK.out _).mono ?_; rintro e w' ⟨rfl, rfl⟩) | (go_at_call 124; refine HK.out.mono ?_; rintro e w2 ⟨rfl, hb2⟩; have HB2 := Lib.hid hb2; clear hb2))
                go_ret3
                unfold LexPost
                rw [HF.out, HE2.out]
                exact ⟨HB.out.trans (HB2.out.mono HB.out.size), rfl⟩
              · have hz' : (kd == 0) = false := by simpa using hz
                have HNZ := Lib.hid hz
                clear hz
                go_wp2_with (first | (go_at_call 120; refine (HC.out _).mono ?_; rintro e w' ⟨rfl, rfl⟩) | (go_at_call 123; refine (HR.out _).mono ?_; rintro e w' ⟨rfl, rfl⟩) | (go_at_call 121; refine (HSK.out _).mono ?_; rintro e w' ⟨rfl, rfl⟩) | (go_at_call 124; refine HK.out.mono ?_; rintro e w2 ⟨rfl, hb2⟩; have HB2 := Lib.hid hb2; clear hb2))
                refine (add_any w2 w.heap.size (w.heap.size + 1) w.heap.size s kd k k2 v acc.length (toksCells acc) (by omega) (by omega) (Nat.le_trans HB.out.size HB2.out.size) (HL.out.below HB2.out) (by omega)).mono ?_
                rintro e w3 ⟨rfl, hb3, g, cap, hst⟩
                have hbw : Below w.heap.size wr w3 := (HB2.out.mono HB.out.size).trans hb3
                have HN : Hid (LexInv w w3 s k2 ∧ Wd w3) := ⟨HAD.out w3 g cap hbw HNZ.out hst, HI.out.2.below hbw hw0⟩
                clear hb3 hst hbw
                go_wp2_with fail
                go_roundw
                case rel => exact ⟨k2, by omega, rfl, HN⟩
                case measure => simp [intOf]; omega
            | false =>
              have HR := Lib.hid (inRun_is hr)
              have hsi := sym_idx s[k]
              cases hsy : symB (bInt s[k]) with
              | true =>
                rw [hsy] at hsi
                have hsi' : decide (0 ≤ symIdx (↑s[k].toNat)) = true := hsi
                have HS : Hid (∀ w, Calls Tryz.prog 46 #[.string ⟨#[40, 41, 44, 46]⟩, .int .u8 (↑s[k].toNat)] w fun e w' => e = .returned (.int .i64 (symIdx (↑s[k].toNat))) ∧ w = w') := fun w => indexByte_any w _
                have HAD := Lib.hid (fun w' g cap hb => (HA.out hlt hbl hh w' g cap hb).2 hr hsy)
                clear hbl hh hr hsi hsy
                generalize symIdx (↑s[k].toNat) = si at *
                go_wp2_with (first | (go_at_call 120; refine (HC.out _).mono ?_; rintro e w' ⟨rfl, rfl⟩) | (go_at_call 123; refine (HR.out _).mono ?_; rintro e w' ⟨rfl, rfl⟩) | (go_at_call 46; refine (HS.out _).mono ?_; rintro e w' ⟨rfl, rfl⟩))
                refine (add_any wr w.heap.size (w.heap.size + 1) w.heap.size s 4 k (k + 1) v acc.length (toksCells acc) (by omega) (by omega) HB.out.size HL.out (by omega)).mono ?_
                rintro e w3 ⟨rfl, hb3, g, cap, hst⟩
                have HN : Hid (LexInv w w3 s (k + 1) ∧ Wd w3) := ⟨HAD.out w3 g cap hb3 hst, HI.out.2.below hb3 hw0⟩
                clear hb3 hst
                go_wp2_with fail
                go_roundw
                case rel => exact ⟨k + 1, by omega, by go_num, HN⟩
                case measure => simp [intOf]; omega
              | false =>
                rw [hsy] at hsi
                have hsi' : decide (0 ≤ symIdx (↑s[k].toNat)) = false := hsi
                have HS : Hid (∀ w, Calls Tryz.prog 46 #[.string ⟨#[40, 41, 44, 46]⟩, .int .u8 (↑s[k].toNat)] w fun e w' => e = .returned (.int .i64 (symIdx (↑s[k].toNat))) ∧ w = w') := fun w => indexByte_any w _
                have HE2 := Lib.hid (HI.out.1.bad hlt hbl hh hr hsy)
                clear hbl hh hr hsi hsy
                generalize symIdx (↑s[k].toNat) = si at *
                go_wp2_with (first | (go_at_call 120; refine (HC.out _).mono ?_; rintro e w' ⟨rfl, rfl⟩) | (go_at_call 123; refine (HR.out _).mono ?_; rintro e w' ⟨rfl, rfl⟩) | (go_at_call 46; refine (HS.out _).mono ?_; rintro e w' ⟨rfl, rfl⟩))
                go_ret3
                unfold LexPost
                rw [HF.out, HE2.out]
                exact ⟨HB.out, rfl⟩
      · have hks : k = s.size := by omega
        have HFIN := Lib.hid (HE.out hks)
        have hkk : (s.size : Int) = (k : Int) := by omega
        have Hk := Lib.hid hks
        clear hks
        go_wp2_with fail
        rw [hkk]
        refine (add_any wr w.heap.size (w.heap.size + 1) w.heap.size s 0 k k v acc.length (toksCells acc) (by omega) (by omega) HB.out.size HL.out (by omega)).mono ?_
        rintro e w3 ⟨rfl, hb3, g, cap, hst⟩
        have co := hst.out
        have HFI := Lib.hid (HFIN.out w3 g cap hb3 hst)
        have HBB := Lib.hid (HB.out.trans hb3)
        clear hb3 hst
        go_wp2_with fail
        go_ret3
        obtain ⟨l, hl1, hl2, hl3⟩ := HFI.out
        unfold LexPost
        rw [HF.out, hl1]
        rw [hl2] at hl3
        refine ⟨HBB.out, g, cap, ?_, hl3⟩
        simp [hl2]
end Go.Proofs.YtmplpbdldcokjaaGreatDoor
