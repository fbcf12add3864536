/- The walks of ref04.kind and ref04.Lex: the reference's lexer gives lexF too. -/
import Derived.Test.YtmplpbdldcokjaaGreatDoorRn
import Derived.Test.YtmplpbdldcokjaaGreatDoorLe
namespace Go.Proofs.YtmplpbdldcokjaaGreatDoor
open Go Go.RowKit

set_option maxHeartbeats 1000000 in
theorem rKind_any (w : World) (s : ByteArray) (hs : s.size ≤ 9223372036854775807) :
    Calls Tryz.prog 159 #[.string s] w fun e w' => e = .returned (.int .i64 (kindF s.data.toList)) ∧ w = w' := by
  have h1 := fun w => rNumber_any w s
  have h2 := fun w => rWord_any w s
  have h3 := fun w => rName_any w s hs
  have h4 := fun w => rVariable_any w s hs
  have hk : kindF s.data.toList = if wordF s.data.toList then 5 else if nameF s.data.toList then 1 else if numF s.data.toList then 2 else if varF s.data.toList then 3 else 0 := rfl
  cases hwd : wordF s.data.toList <;> cases hnm : nameF s.data.toList <;> cases hnu : numF s.data.toList <;> cases hva : varF s.data.toList
  all_goals
    rw [hwd] at h2; rw [hnm] at h3; rw [hnu] at h1; rw [hva] at h4
    rw [hwd, hnm, hnu, hva] at hk
    have HK := Lib.hid hk
    have H1 := Lib.hid h1; have H2 := Lib.hid h2; have H3 := Lib.hid h3; have H4 := Lib.hid h4
    clear h1 h2 h3 h4 hwd hnm hnu hva hk
    go_enter Tryz.func159, Tryz.ntmps159
    go_wp2_with (first | (go_at_call 149; refine (H1.out _).mono ?_; rintro e w' ⟨rfl, rfl⟩) | (go_at_call 163; refine (H2.out _).mono ?_; rintro e w' ⟨rfl, rfl⟩) | (go_at_call 49; refine (H3.out _).mono ?_; rintro e w' ⟨rfl, rfl⟩) | (go_at_call 138; refine (H4.out _).mono ?_; rintro e w' ⟨rfl, rfl⟩))
    go_ret
    exact ⟨ret_int HK.out.symm, rfl⟩

/-- the plain state of the loop -/
def LexP (s : ByteArray) (k : Nat) (acc : List Tok) : Prop :=
  ∃ f, k ≤ s.size ∧ acc.length ≤ k ∧ s.size - k < f ∧ lexGo (s.size + 1) 0 s.data.toList = (lexGo f k (s.data.toList.drop k)).pre acc
theorem LexP.start (s : ByteArray) : LexP s 0 [] := ⟨s.size + 1, Nat.zero_le _, Nat.le_refl _, by omega, by rw [pre_nil]; rfl⟩
theorem LexP.open_ {s : ByteArray} {k : Nat} {acc : List Tok} (h : LexP s k acc) (hk : k < s.size) :
    ∃ f, acc.length ≤ k ∧ s.size - k < f + 1 ∧ lexGo (s.size + 1) 0 s.data.toList = (lexGo (f + 1) k (s[k] :: s.data.toList.drop (k + 1))).pre acc := by
  obtain ⟨f, h1, h2, h3, h6⟩ := h
  cases f with
  | zero => omega
  | succ f => exact ⟨f, h2, h3, by rw [h6, drop_cons s k hk]⟩
theorem LexP.blank {s : ByteArray} {k : Nat} {acc : List Tok} (h : LexP s k acc) (hk : k < s.size) (hb : blankB (bInt s[k]) = true) : LexP s (k + 1) acc := by
  obtain ⟨f, h2, h3, h6⟩ := h.open_ hk
  exact ⟨f, by omega, by omega, by omega, by rw [h6, lexGo_blank _ _ _ _ hb]⟩
theorem LexP.hash {s : ByteArray} {k : Nat} {acc : List Tok} (h : LexP s k acc) (hk : k < s.size) (hb : blankB (bInt s[k]) = false) (hh : (bInt s[k] == 35) = true) :
    LexP s (k + 1 + spanL (fun c => noLf (bInt c)) (s.data.toList.drop (k + 1))) acc := by
  obtain ⟨f, h2, h3, h6⟩ := h.open_ hk
  have hn : noLf (bInt s[k]) = true := by
    have h35 : bInt s[k] = 35 := beq_iff_eq.1 hh
    rw [h35]; rfl
  have hle := span_le (p := fun c => noLf (bInt c)) s (k + 1) (by omega)
  have hy := span_yes (p := fun c => noLf (bInt c)) s k hk hn
  have he : k + 1 + spanL (fun c => noLf (bInt c)) (s.data.toList.drop (k + 1)) = k + spanL (fun c => noLf (bInt c)) (s.data.toList.drop k) := by omega
  refine ⟨f, hle, by omega, by omega, ?_⟩
  rw [he, h6, lexGo_hash _ _ _ _ hb hh, dropSpan _ s k hk, spanL_cons _ s k hk]
theorem runAt_next (s : ByteArray) (k : Nat) (hk : k < s.size) (hr : runB (bInt s[k]) = true) : runAt s k = k + 1 + spanL (fun c => runB (bInt c)) (s.data.toList.drop (k + 1)) := by
  have := span_yes (p := fun c => runB (bInt c)) s k hk hr
  unfold runAt; omega
theorem LexP.run {s : ByteArray} {k : Nat} {acc : List Tok} (h : LexP s k acc) (hk : k < s.size) (hb : blankB (bInt s[k]) = false) (hh : (bInt s[k] == 35) = false) (hr : runB (bInt s[k]) = true)
    (hkd : kindF (s.extract k (runAt s k)).data.toList ≠ 0) : LexP s (runAt s k) (acc ++ [⟨kindF (s.extract k (runAt s k)).data.toList, (s.extract k (runAt s k)).data.toList, k⟩]) := by
  obtain ⟨f, h2, h3, h6⟩ := h.open_ hk
  have hbd := runAt_bd s k hk hr
  refine ⟨f, hbd.2, by rw [List.length_append]; simp only [List.length_cons, List.length_nil]; omega, by omega, ?_⟩
  rw [h6, lexGo_run _ _ _ _ hb hh hr (by rw [← run_text s k hk]; simpa using hkd), pre_pre, dropSpan _ s k hk, spanL_cons _ s k hk, run_text s k hk]
  rfl
theorem LexP.badRun {s : ByteArray} {k : Nat} {acc : List Tok} (h : LexP s k acc) (hk : k < s.size) (hb : blankB (bInt s[k]) = false) (hh : (bInt s[k] == 35) = false) (hr : runB (bInt s[k]) = true)
    (hkd : kindF (s.extract k (runAt s k)).data.toList = 0) : lexGo (s.size + 1) 0 s.data.toList = .err k 4 := by
  obtain ⟨f, h2, h3, h6⟩ := h.open_ hk
  rw [run_text s k hk] at hkd
  rw [h6, lexGo_badrun _ _ _ _ hb hh hr (by rw [hkd]; rfl)]; rfl
theorem LexP.sym {s : ByteArray} {k : Nat} {acc : List Tok} (h : LexP s k acc) (hk : k < s.size) (hb : blankB (bInt s[k]) = false) (hh : (bInt s[k] == 35) = false) (hsy : symB (bInt s[k]) = true) :
    LexP s (k + 1) (acc ++ [⟨4, (s.extract k (k + 1)).data.toList, k⟩]) := by
  obtain ⟨f, h2, h3, h6⟩ := h.open_ hk
  have he : s.extract k (k + 1) = bs [s[k]] := by
    rw [extract_bs, drop_cons s k hk]
    simp
  refine ⟨f, by omega, by simp; omega, by omega, ?_⟩
  rw [h6, lexGo_sym _ _ _ _ hb hh (sym_not_run _ hsy) hsy, pre_pre, he]; rfl
theorem LexP.bad {s : ByteArray} {k : Nat} {acc : List Tok} (h : LexP s k acc) (hk : k < s.size) (hb : blankB (bInt s[k]) = false) (hh : (bInt s[k] == 35) = false) (hr : runB (bInt s[k]) = false) (hsy : symB (bInt s[k]) = false) :
    lexGo (s.size + 1) 0 s.data.toList = .err k 1 := by
  obtain ⟨f, h2, h3, h6⟩ := h.open_ hk
  rw [h6, lexGo_bad _ _ _ _ hb hh hr hsy]; rfl
theorem LexP.fin {s : ByteArray} {k : Nat} {acc : List Tok} (h : LexP s k acc) (hk : k = s.size) : lexGo (s.size + 1) 0 s.data.toList = .ok (acc ++ [⟨0, [], k⟩]) := by
  obtain ⟨f, h1, h2, h3, h6⟩ := h
  cases f with
  | zero => omega
  | succ f => rw [h6, hk, List.drop_eq_nil_of_le (by simp), lexGo_nil]; rfl

theorem rl_add {w wr w1 : World} {v : Value} {n g cap : Nat} {o : Obj} {xs ys : List Value} (hown : wr.ownsRow w.heap.size 118 3 v n xs) (hb : Below w.heap.size w wr)
    (hown1 : w1.ownsRow w.heap.size 118 3 (.slice (some ⟨g, 0, none⟩) (n + 1) cap) (n + 1) ys) (hgrow : (wr.alloc o).grownBy w1 v.ownBlock) :
    w1.ownsRow w.heap.size 118 3 (.slice (some ⟨g, 0, none⟩) (n + 1) cap) (n + 1) ys ∧ Below w.heap.size w w1 :=
  ⟨hown1, ((hb.alloc hb.size o).grown hgrow (by have := hb.size; simp; omega) (fun k hk => (hown.lt k hk).1))⟩
theorem rBlank_is {c : Int} {b : Bool} (h : blankB c = b) (w : World) : Calls Tryz.prog 156 #[.int .u8 c] w fun e w' => e = .returned (.bool b) ∧ w = w' := h ▸ rBlank_any w c
theorem rSym_is {c : Int} {b : Bool} (h : symB c = b) (w : World) : Calls Tryz.prog 157 #[.int .u8 c] w fun e w' => e = .returned (.bool b) ∧ w = w' := h ▸ rSym_any w c
theorem rPart_is {c : Int} {b : Bool} (h : runB c = b) (w : World) : Calls Tryz.prog 158 #[.int .u8 c] w fun e w' => e = .returned (.bool b) ∧ w = w' := h ▸ rPart_any w c

set_option maxHeartbeats 4000000 in
set_option maxRecDepth 100000 in
theorem rLex_any (w : World) (s : ByteArray) (hs : s.size ≤ 9223372036854775807) :
    Calls Tryz.prog 151 #[.string s] w (LexPost w (lexF s.data.toList)) := by
  obtain ⟨i0, hi0, hz0, hz1, hz2⟩ := info_parts infoTok
  have hlen : s.data.toList.length = s.size := by simp
  by_cases hlong : (16384 : Int) < (s.size : Int)
  · have HF : Hid (lexF s.data.toList = .err 0 2) := by unfold Hid lexF; rw [if_pos (by omega)]
    clear hlen
    go_enter Tryz.func151, Tryz.ntmps151
    go_wp2_with fail
    go_ret3
    unfold LexPost
    rw [HF.out]
    exact ⟨Below.refl _ _, rfl⟩
  · have HF : Hid (lexF s.data.toList = lexGo (s.size + 1) 0 s.data.toList) := by unfold Hid lexF; rw [if_neg (by omega), hlen]
    have hsz : s.size ≤ 16384 := by omega
    clear hlen
    have HST := Lib.hid (LexP.start s)
    go_enter Tryz.func151, Tryz.ntmps151
    go_wp2_with fail
    go_loopw [5, 6] (fun v i wr => ∃ (k : Nat) (acc : List Tok), k ≤ s.size ∧ i = .int .i64 k ∧ Hid (LexP s k acc) ∧ Hid (wr.ownsRow w.heap.size 118 3 v acc.length (toksCells acc) ∧ Below w.heap.size w wr)) (fun _ i _ => s.size - (intOf i).toNat)
    case atStart => exact ⟨0, [], Nat.zero_le _, rfl, HST, World.ownsRow_nil _ _ _ _, Below.refl _ _⟩
    case round =>
      obtain ⟨k, acc, hk, rfl, HI, HO⟩ := hrel
      clear HST
      have hacc : acc.length ≤ k := by obtain ⟨f, h1, h2, h3⟩ := HI.out; exact h2
      by_cases hlt : k < s.size
      · cases hbl : blankB (bInt s[k]) with
        | true =>
          have HN := Lib.hid (HI.out.blank hlt hbl)
          have HC := Lib.hid (rBlank_is hbl)
          clear hbl
          go_wp2_with (go_at_call 156; refine (HC.out _).mono ?_; rintro e w' ⟨rfl, rfl⟩)
          go_roundw
          case rel => exact ⟨k + 1, acc, by omega, by go_num, HN, HO⟩
          case measure => simp [intOf]; omega
        | false =>
          have HC := Lib.hid (rBlank_is hbl)
          cases hh : (bInt s[k] == 35) with
          | true =>
            have HN := Lib.hid (HI.out.hash hlt hbl hh)
            have hh' : (((s[k]).toNat : Int) == 35) = true := hh
            clear hbl hh
            go_wp2_with (go_at_call 156; refine (HC.out _).mono ?_; rintro e w' ⟨rfl, rfl⟩)
            go_loop [8] (fun i => ∃ j : Nat, k + 1 ≤ j ∧ j ≤ s.size ∧ i = .int .i64 j ∧ Hid (j + spanL (fun c => noLf (bInt c)) (s.data.toList.drop j) = k + 1 + spanL (fun c => noLf (bInt c)) (s.data.toList.drop (k + 1)))) (fun i => s.size - (intOf i).toNat)
            case atStart => exact ⟨k + 1, Nat.le_refl _, hlt, by go_num, rfl⟩
            case round =>
              obtain ⟨j, hj1, hj2, rfl, HJ⟩ := hrel
              by_cases hlj : j < s.size
              · cases hp : noLf (bInt s[j]) with
                | true =>
                  have HS := Lib.hid (span_yes (p := fun c => noLf (bInt c)) s j hlj hp)
                  have hp' : (((s[j]).toNat : Int) == 10) = false := by unfold noLf bInt at hp; simpa using hp
                  clear hp
                  go_wp2_with fail
                  go_round
                  case rel => exact ⟨j + 1, by omega, by omega, by go_num, by unfold Hid; have := HJ.out; rw [HS.out] at this; omega⟩
                  case measure => simp [intOf]; omega
                | false =>
                  have HS := Lib.hid (span_no (p := fun c => noLf (bInt c)) s j hlj hp)
                  have hp' : (((s[j]).toNat : Int) == 10) = true := by unfold noLf bInt at hp; simpa using hp
                  clear hp
                  go_wp2_with fail
                  go_roundw
                  case rel => exact ⟨j, acc, by omega, rfl, (by have := HJ.out; rw [HS.out] at this; rw [show j = k + 1 + spanL (fun c => noLf (bInt c)) (s.data.toList.drop (k + 1)) by omega]; exact HN), HO⟩
                  case measure => simp [intOf]; omega
              · have HS := Lib.hid (span_end (p := fun c => noLf (bInt c)) s j (by omega))
                go_wp2_with fail
                go_roundw
                case rel => exact ⟨j, acc, by omega, rfl, (by have := HJ.out; rw [HS.out] at this; rw [show j = k + 1 + spanL (fun c => noLf (bInt c)) (s.data.toList.drop (k + 1)) by omega]; exact HN), HO⟩
                case measure => simp [intOf]; omega
          | false =>
            have hh' : (((s[k]).toNat : Int) == 35) = false := hh
            cases hsy : symB (bInt s[k]) with
            | true =>
              have HN := Lib.hid (HI.out.sym hlt hbl hh hsy)
              have HS := Lib.hid (rSym_is hsy)
              clear hbl hh hsy
              go_wp2_with (first | (go_at_call 156; refine (HC.out _).mono ?_; rintro e w' ⟨rfl, rfl⟩) | (go_at_call 157; refine (HS.out _).mono ?_; rintro e w' ⟨rfl, rfl⟩) | (at_builtin; refine wpList_append_lies _ rfl _ _ _ rfl w.heap.size 118 i0 _ 3 32 Tryz.underlying109 hi0 hz0 hz1 hz2 rfl (by omega) u5 acc.length (toksCells acc) rfl (HO.out.1.alloc _) ⟨wr.heap.size, 0, none⟩ 1 1 [.int .i64 4, .string (s.extract k (k + 1)), .int .i64 k] rfl rfl (World.news_of_block (cs := #[.int .i64 4, .string (s.extract k (k + 1)), .int .i64 k]) (t := 118) (fr := (0, 0)) (heap_alloc_new wr _)) (by simp [Value.oneCell']) (by omega) (by unfold maxLen; omega) (by omega) (by have := HO.out.2.size; simp; omega) (wr.heap.size + 1) (by simp) ?_; intro gg cap w1 hown1 hgrow hat hlt1; have HO2 := Lib.hid (rl_add HO.out.1 HO.out.2 hown1 hgrow); clear hown1 hgrow hat hlt1))
              go_roundw
              case rel => exact ⟨k + 1, acc ++ [⟨4, (s.extract k (k + 1)).data.toList, k⟩], by omega, by go_num, HN, by unfold Hid; rw [toksCells_snoc, List.length_append]; exact HO2.out⟩
              case measure => simp [intOf]; omega
            | false =>
              have HS := Lib.hid (rSym_is hsy)
              cases hr : runB (bInt s[k]) with
              | true =>
                have HR := Lib.hid (rPart_is hr)
                have hbd := runAt_bd s k hlt hr
                have hnx := Lib.hid (runAt_next s k hlt hr)
                have HBR : Hid (kindF (s.extract k (runAt s k)).data.toList = 0 → lexGo (s.size + 1) 0 s.data.toList = .err k 4) := fun hz => HI.out.badRun hlt hbl hh hr hz
                have HAD := Lib.hid (fun hz => HI.out.run hlt hbl hh hr hz)
                clear hbl hh hsy hr
                generalize runAt s k = k2 at *
                go_wp2_with (first | (go_at_call 156; refine (HC.out _).mono ?_; rintro e w' ⟨rfl, rfl⟩) | (go_at_call 157; refine (HS.out _).mono ?_; rintro e w' ⟨rfl, rfl⟩) | (go_at_call 158; refine (HR.out _).mono ?_; rintro e w' ⟨rfl, rfl⟩))
                go_loop [8] (fun i => ∃ j : Nat, k + 1 ≤ j ∧ j ≤ s.size ∧ i = .int .i64 j ∧ Hid (j + spanL (fun c => runB (bInt c)) (s.data.toList.drop j) = k2)) (fun i => s.size - (intOf i).toNat)
                case atStart => exact ⟨k + 1, Nat.le_refl _, hlt, by go_num, hnx.out.symm⟩
                case round =>
                  obtain ⟨j, hj1, hj2, rfl, HJ⟩ := hrel
                  clear HC HS HR hnx
                  by_cases hlj : j < s.size
                  · cases hp : runB (bInt s[j]) with
                    | true =>
                      have HS := Lib.hid (span_yes (p := fun c => runB (bInt c)) s j hlj hp)
                      have HP := Lib.hid (rPart_is hp)
                      clear hp
                      go_wp2_with (go_at_call 158; refine (HP.out _).mono ?_; rintro e w' ⟨rfl, rfl⟩)
                      go_round
                      case rel => exact ⟨j + 1, by omega, by omega, by go_num, by unfold Hid; have := HJ.out; rw [HS.out] at this; omega⟩
                      case measure => simp [intOf]; omega
                    | false =>
                      have HS := Lib.hid (span_no (p := fun c => runB (bInt c)) s j hlj hp)
                      have HP := Lib.hid (rPart_is hp)
                      clear hp
                      obtain rfl : j = k2 := by have := HJ.out; rw [HS.out] at this; omega
                      clear HJ HS
                      go_wp2_with (go_at_call 158; refine (HP.out _).mono ?_; rintro e w' ⟨rfl, rfl⟩)
                      refine (rKind_any wr (s.extract k j) (by rw [ByteArray.size_extract]; omega)).mono ?_
                      rintro e w' ⟨rfl, rfl⟩
                      generalize hkd : kindF (s.extract k j).data.toList = kd at *
                      have HKD := Lib.hid hkd
                      clear hkd
                      by_cases hz : kd = 0
                      · have hz' : (kd == 0) = true := by rw [hz]; rfl
                        have HE2 := Lib.hid (HBR.out hz)
                        clear hz
                        go_wp2_with fail
                        go_ret3
                        unfold LexPost
                        rw [HF.out, HE2.out]
                        exact ⟨HO.out.2, rfl⟩
                      · have hz' : (kd == 0) = false := by simpa using hz
                        have HN := Lib.hid (HAD.out hz)
                        clear hz
                        go_wp2_with (at_builtin; refine wpList_append_lies _ rfl _ _ _ rfl w.heap.size 118 i0 _ 3 32 Tryz.underlying109 hi0 hz0 hz1 hz2 rfl (by omega) u5 acc.length (toksCells acc) rfl (HO.out.1.alloc _) ⟨wr.heap.size, 0, none⟩ 1 1 [.int .i64 kd, .string (s.extract k j), .int .i64 k] rfl rfl (World.news_of_block (cs := #[.int .i64 kd, .string (s.extract k j), .int .i64 k]) (t := 118) (fr := (0, 0)) (heap_alloc_new wr _)) (by simp [Value.oneCell']) (by omega) (by unfold maxLen; omega) (by omega) (by have := HO.out.2.size; simp; omega) (wr.heap.size + 1) (by simp) ?_; intro gg cap w1 hown1 hgrow hat hlt1; have HO2 := Lib.hid (rl_add HO.out.1 HO.out.2 hown1 hgrow); clear hown1 hgrow hat hlt1)
                        go_roundw
                        case rel => exact ⟨j, acc ++ [⟨kd, (s.extract k j).data.toList, k⟩], by omega, rfl, HN, by unfold Hid; rw [toksCells_snoc, List.length_append]; exact HO2.out⟩
                        case measure => simp [intOf]; omega
                  · have HS := Lib.hid (span_end (p := fun c => runB (bInt c)) s j (by omega))
                    obtain rfl : j = k2 := by have := HJ.out; rw [HS.out] at this; omega
                    clear HJ HS
                    go_wp2_with fail
                    refine (rKind_any wr (s.extract k j) (by rw [ByteArray.size_extract]; omega)).mono ?_
                    rintro e w' ⟨rfl, rfl⟩
                    generalize hkd : kindF (s.extract k j).data.toList = kd at *
                    have HKD := Lib.hid hkd
                    clear hkd
                    by_cases hz : kd = 0
                    · have hz' : (kd == 0) = true := by rw [hz]; rfl
                      have HE2 := Lib.hid (HBR.out hz)
                      clear hz
                      go_wp2_with fail
                      go_ret3
                      unfold LexPost
                      rw [HF.out, HE2.out]
                      exact ⟨HO.out.2, rfl⟩
                    · have hz' : (kd == 0) = false := by simpa using hz
                      have HN := Lib.hid (HAD.out hz)
                      clear hz
                      go_wp2_with (at_builtin; refine wpList_append_lies _ rfl _ _ _ rfl w.heap.size 118 i0 _ 3 32 Tryz.underlying109 hi0 hz0 hz1 hz2 rfl (by omega) u5 acc.length (toksCells acc) rfl (HO.out.1.alloc _) ⟨wr.heap.size, 0, none⟩ 1 1 [.int .i64 kd, .string (s.extract k j), .int .i64 k] rfl rfl (World.news_of_block (cs := #[.int .i64 kd, .string (s.extract k j), .int .i64 k]) (t := 118) (fr := (0, 0)) (heap_alloc_new wr _)) (by simp [Value.oneCell']) (by omega) (by unfold maxLen; omega) (by omega) (by have := HO.out.2.size; simp; omega) (wr.heap.size + 1) (by simp) ?_; intro gg cap w1 hown1 hgrow hat hlt1; have HO2 := Lib.hid (rl_add HO.out.1 HO.out.2 hown1 hgrow); clear hown1 hgrow hat hlt1)
                      go_roundw
                      case rel => exact ⟨j, acc ++ [⟨kd, (s.extract k j).data.toList, k⟩], by omega, rfl, HN, by unfold Hid; rw [toksCells_snoc, List.length_append]; exact HO2.out⟩
                      case measure => simp [intOf]; omega
              | false =>
                have HR := Lib.hid (rPart_is hr)
                have HE2 := Lib.hid (HI.out.bad hlt hbl hh hr hsy)
                clear hbl hh hr hsy
                go_wp2_with (first | (go_at_call 156; refine (HC.out _).mono ?_; rintro e w' ⟨rfl, rfl⟩) | (go_at_call 157; refine (HS.out _).mono ?_; rintro e w' ⟨rfl, rfl⟩) | (go_at_call 158; refine (HR.out _).mono ?_; rintro e w' ⟨rfl, rfl⟩))
                go_ret3
                unfold LexPost
                rw [HF.out, HE2.out]
                exact ⟨HO.out.2, rfl⟩
      · have hks : k = s.size := by omega
        have HFI := Lib.hid (HI.out.fin hks)
        have hkk : (s.size : Int) = (k : Int) := by omega
        clear hks
        go_wp2_with (at_builtin; refine wpList_append_lies _ rfl _ _ _ rfl w.heap.size 118 i0 _ 3 32 Tryz.underlying109 hi0 hz0 hz1 hz2 rfl (by omega) u5 acc.length (toksCells acc) rfl (HO.out.1.alloc _) ⟨wr.heap.size, 0, none⟩ 1 1 [.int .i64 0, .string ⟨#[]⟩, .int .i64 k] rfl rfl (World.news_of_block (cs := #[.int .i64 0, .string ⟨#[]⟩, .int .i64 k]) (t := 118) (fr := (0, 0)) (heap_alloc_new wr _)) (by simp [Value.oneCell']) (by omega) (by unfold maxLen; omega) (by omega) (by have := HO.out.2.size; simp; omega) (wr.heap.size + 1) (by simp) ?_; intro gg cap w1 hown1 hgrow hat hlt1; have HO2 := Lib.hid (rl_add HO.out.1 HO.out.2 hown1 hgrow); clear hown1 hgrow hat hlt1)
        go_ret3
        unfold LexPost
        rw [HF.out, HFI.out]
        refine ⟨HO2.out.2, gg, cap, ?_, ?_⟩
        · simp
        · rw [toksCells_snoc, List.length_append]
          exact HO2.out.1
end Go.Proofs.YtmplpbdldcokjaaGreatDoor
