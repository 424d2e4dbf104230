/-
  WalPlays: the log's calls, side by side.
  Conditions: none.
-/
import Derived.Test.YtinchlfaepjfiaaDoorWlF
namespace Go.Proofs.YtinchlfaepjfiaaDoor
open Go.S
set_option linter.unusedVariables false
set_option linter.unusedSimpArgs false
/-- What is known of a log. -/
structure Lg (N : Nat) (fr sz ep at_ sq : Int) : Prop where
  f0 : 0 ≤ fr
  z0 : 2 ≤ sz
  fz : fr + sz ≤ N
  e0 : 0 ≤ ep
  e1 : ep ≤ 1000000
  a0 : 1 ≤ at_
  a1 : at_ ≤ sz
  q0 : 0 ≤ sq
  q1 : sq < at_
section
variable {N : Nat} {S T : SS} {L : List Twrite} {l : Int} {q : Nat}
theorem raise_eq (h : Dk N S T L l q) (hq : q < 2600000000000) (fr : Int) {ep : Int} (hep : 0 ≤ ep) (hep1 : ep ≤ 1000000) (sz at_ sq : Int) (fell : Bool) :
    ∃ S' T' L' l' ep' fell' e, m27_wal_Log_raise S T L l fr sz ep at_ sq fell = some (S', T', L', l', ep', fell', e) ∧ m31_quirref_Log_raise T S (LA L) (LX L) l fr sz ep at_ sq fell = some (T', S', LA L', LX L', l', ep', fell', e) ∧
      Dk N S' T' L' l' (q + 1) ∧ 0 ≤ ep' ∧ ep' ≤ 1000000 ∧ (e = 0 → L' = [] ∧ fell' = fell ∧ ep' = ep + 1) ∧ (fell' = false → L'.length ≤ L.length) := by
  have hll := h.ll
  rw [m27_wal_Log_raise, m31_quirref_Log_raise]
  by_cases c1 : 1000000 ≤ ep
  · rw [if_pos c1, if_pos c1]
    exact ⟨_, _, _, _, _, _, _, rfl, rfl, h.more (by omega), hep, hep1, fun e => (by cases e), fun _ => Nat.le_refl _⟩
  have h64 : I64 (ep + 1) := ⟨by omega, by omega⟩
  rw [if_neg c1, if_neg c1, m27_wal_Log_raise_K1, m31_quirref_Log_raise_K1, i64_ok (by omega) (by omega), bind1_some, bind1_some, aT_prog h64, bind1_some, aT_ref h64, bind1_some]
  obtain ⟨T', L', l', e, w1, w2, w3, w4, w5⟩ := write_eq h hq fr (s := aT (ep + 1)) (s' := pad (aT (ep + 1))) (.inr ⟨by have := aT_len h64; omega, rfl⟩)
  rw [w1, w2, bind4_some, bind5_some]
  by_cases c2 : e = 0
  · subst c2
    rw [if_neg (by decide), if_pos rfl, m27_wal_Log_raise_K2]
    obtain ⟨S'', L'', l'', e', f1, f2, f3, f4, f5⟩ := flush_eq w3
    rw [f1, f2, bind5_some, bind6_some]
    by_cases c3 : e' = 0
    · subst c3
      obtain rfl := f5 rfl
      rw [if_neg (by decide), i64_ok (by omega) (by omega), bind1_some, m31_quirref_Log_raise_K2, if_pos rfl, i64_ok (by omega) (by omega), bind1_some, m31_quirref_Log_raise_K3, if_neg (by decide), m31_quirref_Log_raise_K4]
      exact ⟨_, _, _, _, _, _, _, rfl, rfl, f3, by omega, by omega, fun _ => ⟨rfl, rfl, rfl⟩, fun _ => by simp⟩
    · have hk : (if fell = true then m27_wal_Log_raise_K3 S'' T' L'' l'' ep e' true else m27_wal_Log_raise_K3 S'' T' L'' l'' ep e' (decide (e' ≠ 0))) = some (S'', T', L'', l'', ep, true, e') := by
        cases fell <;> simp [m27_wal_Log_raise_K3, c3]
      rw [if_pos c3, hk, m31_quirref_Log_raise_K2, if_neg c3, m31_quirref_Log_raise_K3, if_pos c3, m31_quirref_Log_raise_K4]
      exact ⟨_, _, _, _, _, _, _, rfl, rfl, f3, hep, hep1, fun h' => absurd h' c3, fun h' => by cases h'⟩
  · have hk : (if fell = true then m27_wal_Log_raise_K4 S T' L' l' ep e true else m27_wal_Log_raise_K4 S T' L' l' ep e (decide (e ≠ 0))) = some (S, T', L', l', ep, true, e) := by
      cases fell <;> simp [m27_wal_Log_raise_K4, c2]
    rw [if_pos c2, hk, if_neg c2, m31_quirref_Log_raise_K2, if_neg c2, m31_quirref_Log_raise_K3, if_pos c2, m31_quirref_Log_raise_K4]
    exact ⟨_, _, _, _, _, _, _, rfl, rfl, w3, hep, hep1, fun h' => absurd h' c2, fun h' => by cases h'⟩
theorem open_loop (h : Dk N S T L l q) (hl : l ≠ 0) (fr sz : Nat) (hf : fr + sz ≤ N) (ep : Int) {A : SS} (hA : A = (T.drop fr).take sz) : ∀ (r at_ : Nat), at_ + r = sz → 1 ≤ at_ → ∀ (n n' : Nat), r < n → r < n' → ∀ (sq : Nat), sq < at_ → ∀ (last : Int) (out : SS), out.length ≤ sq →
    ∃ (out' : SS) (at' sq' : Nat), m6_wal_Open_L1 S T L l fr sz ep n out last at_ sq = m6_wal_Open_K4 S T L l fr sz ep out' at' sq' ∧ m7_quirref_OpenLog_L1 A T S (LA L) (LX L) l fr sz ep n' out last at_ sq = m7_quirref_OpenLog_K4 T S (LA L) (LX L) l fr sz ep out' at' sq' ∧ 1 ≤ at' ∧ at' ≤ sz ∧ sq' < at' ∧ out'.length ≤ sq' := by
  have ht := h.t
  have hNn := h.n
  have hAl : A.length = sz := by rw [hA, List.length_take, List.length_drop]; omega
  intro r
  induction r using Nat.strongRecOn with
  | _ r ih =>
  intro at_ hat h1 n n' hn hn' sq hsq last out hout
  obtain ⟨n, rfl⟩ := dec n (by omega)
  obtain ⟨n', rfl⟩ := dec n' (by omega)
  have hc : cut A (at_ : Int) (A.length : Int) = some (A.drop at_) := by rw [cut_ok (by omega) (by omega) (by omega)]; simp
  have hV : A.drop at_ = (T.drop (fr + at_)).take r := by
    rw [hA, List.drop_take, List.drop_drop, show sz - at_ = r by omega]
  rw [m6_wal_Open_L1, m6_wal_Open_L1B, m7_quirref_OpenLog_L1, m7_quirref_OpenLog_L1B, hc, bind1_some]
  have hR := rec_eq h hl fr at_ r (fr + at_) sz rfl hat (by omega) hV (sq := (sq : Int)) ⟨by omega, by omega⟩ ep at_ sq false
  have stop : m6_wal_Open_K4 S T L l fr sz ep out at_ sq = m6_wal_Open_K4 S T L l fr sz ep out at_ sq := rfl
  rcases hR with ⟨e1, e2⟩ | ⟨ep', tx, z, e1, e2, z1, z2⟩
  · rw [e1, e2, bind2_some, bind3_some, if_neg ff, if_pos rfl, m6_wal_Open_K6, if_neg ff, m7_quirref_OpenLog_K6, if_pos rfl]
    exact ⟨out, at_, sq, rfl, rfl, h1, by omega, hsq, hout⟩
  · rw [e1, e2, bind2_some, bind3_some, if_pos rfl, if_neg (by omega)]
    dsimp only
    rw [m6_wal_Open_K6, if_pos rfl]
    by_cases c1 : ep' < last
    · rw [if_pos c1, if_pos c1, m7_quirref_OpenLog_K6, if_pos rfl]
      exact ⟨out, at_, sq, rfl, rfl, h1, by omega, hsq, hout⟩
    rw [if_neg c1, if_neg c1, m7_quirref_OpenLog_K6, if_neg ff]
    by_cases c2 : ep < ep'
    · rw [if_pos c2, if_pos c2]
      exact ⟨out, at_, sq, rfl, rfl, h1, by omega, hsq, hout⟩
    obtain ⟨z, rfl⟩ := Int.eq_ofNat_of_zero_le (show 0 ≤ z by omega)
    rw [if_neg c2, if_neg c2, m6_wal_Open_K7, m7_quirref_OpenLog_K5, i64_ok (by omega) (by omega), bind1_some, app_ok (by simp; omega), bind1_some, bind1_some, bind1_some, m6_wal_Open_K5, isucc sq (by omega), bind1_some, bind1_some, show (at_ : Int) + (z : Int) = ((at_ + z : Nat) : Int) by omega]
    exact ih (r - z) (by omega) (at_ + z) (by omega) (by omega) n n' (by omega) (by omega) (sq + 1) (by omega) ep' _ (by simp; omega)
theorem open_eq (h : Dk N S T L l q) (hq : q < 2600000000000) (a1 a2 : Int) :
    (∃ S' T' L' l' e, e ≠ 0 ∧ m6_wal_Open S T L l a1 a2 = some (.inl (S', T', L', l', [], e)) ∧ m7_quirref_OpenLog T S (LA L) (LX L) l a1 a2 = some (.inl (T', S', LA L', LX L', l', [], e)) ∧ Dk N S' T' L' l' (q + 1)) ∨
    (∃ S' T' L' l' out ep at_ sq, m6_wal_Open S T L l a1 a2 = some (.inr (S', T', L', l', out, 0, a1, a2, ep, at_, sq, false)) ∧ m7_quirref_OpenLog T S (LA L) (LX L) l a1 a2 = some (.inr (T', S', LA L', LX L', l', out, 0, a1, a2, ep, at_, sq, false)) ∧
      Dk N S' T' L' l' (q + 1) ∧ Lg N a1 a2 ep at_ sq ∧ L' = [] ∧ out.length ≤ 256) := by
  have hll := h.ll
  have ht := h.t
  have hs := h.s
  have hNn := h.n
  have hm := h.more (q' := q + 1) (by omega)
  have bad : ∀ e : Int, e ≠ 0 → (∃ S' T' L' l' e', e' ≠ 0 ∧ (some (.inl (S, T, L, l, [], e)) : Option ((SS × SS × (List Twrite) × Int × SS × Int) ⊕ (SS × SS × (List Twrite) × Int × SS × Int × Int × Int × Int × Int × Int × Bool))) = some (.inl (S', T', L', l', [], e')) ∧
      (some (.inl (T, S, LA L, LX L, l, [], e)) : Option ((SS × SS × (List Int) × SS × Int × SS × Int) ⊕ (SS × SS × (List Int) × SS × Int × SS × Int × Int × Int × Int × Int × Int × Bool))) = some (.inl (T', S', LA L', LX L', l', [], e')) ∧ Dk N S' T' L' l' (q + 1)) :=
    fun e he => ⟨_, _, _, _, _, he, rfl, rfl, hm⟩
  rw [m6_wal_Open, m7_quirref_OpenLog]
  by_cases c1 : a1 < 0
  · rw [if_pos c1, if_pos c1, m6_wal_Open_K8, if_pos rfl, m7_quirref_OpenLog_K7, if_pos rfl]; exact .inl (bad 1 (by decide))
  rw [if_neg c1, if_neg c1]
  by_cases c2 : a2 < 2
  · rw [if_pos c2, if_pos c2, m6_wal_Open_K8, if_pos rfl, m7_quirref_OpenLog_K7, if_pos rfl]; exact .inl (bad 1 (by decide))
  rw [if_neg c2, if_neg c2, m6_wal_Open_K8, if_neg ff, m7_quirref_OpenLog_K7, if_neg ff, m6_wal_Open_K9, hs, ht]
  by_cases c3 : (N : Int) < a1
  · rw [if_pos c3, if_pos c3]; exact .inl (bad 1 (by decide))
  rw [if_neg c3, if_neg c3, m6_wal_Open_K10, hs, i64_ok (by omega) (by omega), bind1_some, bind1_some]
  by_cases c4 : (N : Int) - a1 < a2
  · rw [if_pos c4, if_pos c4]; exact .inl (bad 1 (by decide))
  rw [if_neg c4, if_neg c4, m6_wal_Open_K1, m7_quirref_OpenLog_K1, m7_quirref_OpenLog_K2]
  obtain ⟨fr, rfl⟩ := Int.eq_ofNat_of_zero_le (show 0 ≤ a1 by omega)
  obtain ⟨sz, rfl⟩ := Int.eq_ofNat_of_zero_le (show 0 ≤ a2 by omega)
  have hit : fr < T.length := by omega
  by_cases c5 : l = 0
  · subst c5
    rw [m21_sect_Disk_Read, if_neg (by omega), if_neg (by omega), m21_sect_Disk_Read_K1, if_pos rfl, bind2_some, if_pos (by decide), if_pos (by decide)]
    exact .inl (bad 13 (by decide))
  rw [read_at h c5 fr hit, bind2_some, if_neg (by simp), m6_wal_Open_K2, if_neg (by simpa using c5), i64_ok (by omega) (by omega), bind1_some]
  have hA : cut T (fr : Int) ((fr : Int) + (sz : Int)) = some ((T.drop fr).take sz) := by
    rw [cut_ok (by omega) (by omega) (by omega)]
    congr 1
    rw [List.drop_take]
    congr 1
    · omega
  have hAl : ((T.drop fr).take sz).length = sz := by rw [List.length_take, List.length_drop]; omega
  have hi0 : idx ((T.drop fr).take sz) 0 = some T[fr] := by
    have := idx_ok (l := (T.drop fr).take sz) (i := 0) (by omega)
    rw [show ((0 : Nat) : Int) = 0 from rfl] at this
    rw [this]; simp
  rw [hA, bind1_some, hi0, bind1_some]
  have h64 : T[fr].length = 64 := h.t64 _ (List.getElem_mem hit)
  rcases epoch_eq T[fr] h64 with ⟨ep, g1, g2, g3, g4⟩ | ⟨g1, g2⟩
  · rw [g1, g2, bind2_some, bind1_some, if_neg (by decide), if_neg (by omega), m6_wal_Open_K3, m7_quirref_OpenLog_K3]
    obtain ⟨out, at_, sq, e1, e2, p1, p2, p3, p4⟩ := open_loop h c5 fr sz (by omega) ep rfl (sz - 1) 1 (by omega) (by omega) big big (lt_big (by omega)) (lt_big (by omega)) 0 (by omega) 0 [] (by simp)
    rw [show ((1 : Nat) : Int) = 1 from rfl, show ((0 : Nat) : Int) = 0 from rfl] at e1 e2
    rw [e1, e2, m6_wal_Open_K4, m7_quirref_OpenLog_K4]
    obtain ⟨S', T', L', l', ep', f', e, r1, r2, r3, r4, r5, r6, r7⟩ := raise_eq h hq fr g3 g4 sz at_ sq false
    rw [r1, r2, bind7_some, bind8_some]
    by_cases c6 : e = 0
    · obtain ⟨rfl, rfl, _⟩ := r6 c6
      subst c6
      rw [if_neg (by decide), if_neg (by decide)]
      exact .inr ⟨_, _, _, _, _, _, _, _, rfl, rfl, r3, ⟨by omega, by omega, by omega, r4, r5, by omega, by omega, by omega, by omega⟩, rfl, by omega⟩
    · rw [if_pos c6, if_pos c6]
      exact .inl ⟨_, _, _, _, _, c6, rfl, rfl, r3⟩
  · rw [g1, g2, bind2_some, bind1_some, if_pos (by decide), if_pos (by decide)]
    exact .inl (bad 4 (by decide))
/-! ### Appending, syncing, resetting -/
/-- Both sides, between two deeds. -/
structure St (N : Nat) (S T : SS) (L : List Twrite) (l : Int) (i : Nat) (fr sz ep at_ sq : Int) (fell : Bool) : Prop where
  d : Dk N S T L l (i + 256)
  g : Lg N fr sz ep at_ sq
  c : fell = false → (L.length : Int) ≤ i + at_
theorem app_loop (fr at_ sq i sz : Nat) (hf : fr + sz ≤ N) (hN : N ≤ 256) (hi : i < 2590000000000) (Ls : SS) (hL : ∀ x ∈ Ls, x.length ≤ 64) (hls : at_ + Ls.length ≤ sz) (hsq : sq < 1000) : ∀ (r j : Nat), j + r = Ls.length → ∀ (n n' : Nat), r < n → r < n' → ∀ (T : SS) (L : List Twrite) (l : Int), Dk N S T L l (i + at_ + j) →
    ∃ T' L' l' at' sq' fell' e, m9_wal_Log_Append_L1 Ls fr at_ S false sq n j T L l = some (S, T', L', l', at', sq', fell', e) ∧ m10_quirref_Log_Append_L1 Ls fr at_ S sq false n' j T (LA L) (LX L) l = some (T', S, LA L', LX L', l', at', sq', fell', e) ∧
      ((fell' = false ∧ at' = at_ + Ls.length ∧ sq' = sq + 1 ∧ Dk N S T' L' l' (i + at_ + Ls.length)) ∨ (fell' = true ∧ at' = at_ ∧ sq' = sq ∧ Dk N S T' L' l' (i + at_ + Ls.length + 1))) := by
  intro r
  induction r with
  | zero =>
    intro j hj n n' hn hn' T L l h
    obtain ⟨n, rfl⟩ := dec n hn
    obtain ⟨n', rfl⟩ := dec n' hn'
    rw [m9_wal_Log_Append_L1, m9_wal_Log_Append_L1B, m10_quirref_Log_Append_L1, m10_quirref_Log_Append_L1B, if_neg (by omega), if_neg (by omega), m9_wal_Log_Append_K4, m10_quirref_Log_Append_K4, i64_ok (by omega) (by omega), bind1_some, bind1_some, i64_ok (by omega) (by omega), bind1_some, bind1_some]
    obtain rfl : j = Ls.length := by omega
    exact ⟨_, _, _, _, _, _, _, rfl, rfl, .inl ⟨rfl, rfl, rfl, h⟩⟩
  | succ r ih =>
    intro j hj n n' hn hn' T L l h
    obtain ⟨n, rfl⟩ := dec n (by omega)
    obtain ⟨n', rfl⟩ := dec n' (by omega)
    have hjl : j < Ls.length := by omega
    have hll := h.ll
    rw [m9_wal_Log_Append_L1, m9_wal_Log_Append_L1B, m10_quirref_Log_Append_L1, m10_quirref_Log_Append_L1B, if_pos (by omega), if_pos (by omega), idx_ok hjl, bind1_some, bind1_some, i64_ok (by omega) (by omega), bind1_some, bind1_some, i64_ok (by omega) (by omega), bind1_some, bind1_some]
    obtain ⟨T', L', l', e, w1, w2, w3, w4, w5⟩ := write_eq h (by omega) ((fr : Int) + (at_ : Int) + (j : Int)) (s := Ls[j]) (s' := Ls[j]) (.inl rfl)
    rw [w1, w2, bind4_some, bind5_some]
    by_cases c : e = 0
    · rw [if_neg (by simpa using c), if_neg (by simpa using c), isucc j (by omega), bind1_some, bind1_some]
      exact ih (j + 1) (by omega) n n' (by omega) (by omega) T' L' l' (w3.more w3.ll)
    · rw [if_pos c, if_neg ff, if_pos c, if_pos c, m9_wal_Log_Append_K5, m10_quirref_Log_Append_K5]
      refine ⟨_, _, _, _, _, _, _, rfl, ?_, .inr ⟨by simpa using c, rfl, rfl, w3.more (by have := w3.ll; omega)⟩⟩
      rw [show decide (e ≠ 0) = true by simpa using c]
theorem append_eq {i : Nat} {fr sz ep at_ sq : Int} {fell : Bool} (h : St N S T L l i fr sz ep at_ sq fell) (hi : i < 2590000000000) (s : List UInt8) :
    ∃ T' L' l' at' sq' fell' e, m9_wal_Log_Append S T L l fr sz ep at_ sq fell s = some (S, T', L', l', at', sq', fell', e) ∧ m10_quirref_Log_Append T S (LA L) (LX L) l fr sz ep at_ sq fell s = some (T', S, LA L', LX L', l', at', sq', fell', e) ∧ St N S T' L' l' (i + 1) fr sz ep at' sq' fell' := by
  have hg := h.g
  have hN := h.d.n
  have f0 := hg.f0
  have z0 := hg.z0
  have fz := hg.fz
  have e0 := hg.e0
  have e1 := hg.e1
  have a0 := hg.a0
  have a1 := hg.a1
  have q0 := hg.q0
  have q1 := hg.q1
  have hll := h.d.ll
  have same : St N S T L l (i + 1) fr sz ep at_ sq fell := ⟨h.d.more (by omega), hg, fun hf => by have := h.c hf; omega⟩
  rw [m9_wal_Log_Append, m10_quirref_Log_Append]
  cases fell with
  | true => rw [if_pos rfl, if_pos rfl]; exact ⟨_, _, _, _, _, _, _, rfl, rfl, same⟩
  | false =>
    rw [if_neg ff, if_neg ff, m9_wal_Log_Append_K1, m10_quirref_Log_Append_K1]
    by_cases c1 : (300 : Int) < s.length
    · rw [if_pos c1, if_pos c1]; exact ⟨_, _, _, _, _, _, _, rfl, rfl, same⟩
    obtain ⟨Ls, g1, g2, g3, g4, g5⟩ := sec_eq (e := ep) (q := sq) ⟨by omega, by omega⟩ ⟨by omega, by omega⟩ (s := s) (by omega)
    rw [if_neg c1, if_neg c1, m9_wal_Log_Append_K2, m10_quirref_Log_Append_K2, g1, g2, bind1_some, bind1_some, i64_ok (by omega) (by omega), bind1_some, i64_ok (by omega) (by omega), bind1_some]
    by_cases c2 : sz < at_ + (Ls.length : Int)
    · rw [if_pos c2, if_pos (by omega)]; exact ⟨_, _, _, _, _, _, _, rfl, rfl, same⟩
    rw [if_neg c2, if_neg (by omega), m9_wal_Log_Append_K3, m10_quirref_Log_Append_K3]
    obtain ⟨fr, rfl⟩ := Int.eq_ofNat_of_zero_le f0
    obtain ⟨sz, rfl⟩ := Int.eq_ofNat_of_zero_le (show 0 ≤ sz by omega)
    obtain ⟨at_, rfl⟩ := Int.eq_ofNat_of_zero_le (show 0 ≤ at_ by omega)
    obtain ⟨sq, rfl⟩ := Int.eq_ofNat_of_zero_le q0
    have hc := h.c rfl
    obtain ⟨T', L', l', at', sq', fell', e, r1, r2, r3⟩ := app_loop (S := S) fr at_ sq i sz (by omega) hN hi Ls g3 (by omega) (by omega) Ls.length 0 (by omega) big big (lt_big (by omega)) (lt_big (by omega)) T L l (h.d.more (by omega))
    refine ⟨T', L', l', at', sq', fell', e, r1, r2, ?_⟩
    rcases r3 with ⟨rfl, rfl, rfl, r3⟩ | ⟨rfl, rfl, rfl, r3⟩
    · have := r3.ll
      exact ⟨r3.more (by omega), ⟨by omega, by omega, by omega, e0, e1, by omega, by omega, by omega, by omega⟩, fun _ => by omega⟩
    · have := r3.ll
      exact ⟨r3.more (by omega), hg, fun hf => by cases hf⟩
theorem sync_eq {i : Nat} {fr sz ep at_ sq : Int} {fell : Bool} (h : St N S T L l i fr sz ep at_ sq fell) :
    ∃ S' L' l' fell' e, m11_wal_Log_Sync S T L l fr sz ep at_ sq fell = some (S', T, L', l', fell', e) ∧ m12_quirref_Log_Sync T S (LA L) (LX L) l fr sz ep at_ sq fell = some (T, S', LA L', LX L', l', fell', e) ∧ St N S' T L' l' (i + 1) fr sz ep at_ sq fell' := by
  have hg := h.g
  have a0 := hg.a0
  have hll := h.d.ll
  have same : St N S T L l (i + 1) fr sz ep at_ sq fell := ⟨h.d.more (by omega), hg, fun hf => by have := h.c hf; omega⟩
  rw [m11_wal_Log_Sync, m12_quirref_Log_Sync]
  cases fell with
  | true => rw [if_pos rfl, if_pos rfl]; exact ⟨_, _, _, _, _, rfl, rfl, same⟩
  | false =>
    obtain ⟨S', L', l', e, f1, f2, f3, f4, f5⟩ := flush_eq h.d
    have hL : L'.length ≤ i + 1 + 256 := by have := f3.ll; omega
    rw [if_neg ff, if_neg ff, m11_wal_Log_Sync_K1, m12_quirref_Log_Sync_K1, f1, f2, bind5_some, bind6_some, if_neg ff, m11_wal_Log_Sync_K2]
    by_cases c : e = 0
    · obtain rfl := f5 c
      rw [if_neg (by simpa using c), m12_quirref_Log_Sync_K2, show decide (e ≠ 0) = false by simpa using c]
      exact ⟨_, _, _, _, _, rfl, rfl, ⟨f3.more hL, hg, fun _ => by simp; omega⟩⟩
    · rw [if_pos c, m12_quirref_Log_Sync_K2, show decide (e ≠ 0) = true by simpa using c]
      exact ⟨_, _, _, _, _, rfl, rfl, ⟨f3.more hL, hg, fun hf => by cases hf⟩⟩
theorem reset_eq {i : Nat} {fr sz ep at_ sq : Int} {fell : Bool} (h : St N S T L l i fr sz ep at_ sq fell) (hi : i < 2590000000000) (s : List UInt8) :
    ∃ S' T' L' l' ep' at' sq' fell' e, m13_wal_Log_Reset S T L l fr sz ep at_ sq fell s = some (S', T', L', l', ep', at', sq', fell', e) ∧ m14_quirref_Log_Reset T S (LA L) (LX L) l fr sz ep at_ sq fell s = some (T', S', LA L', LX L', l', ep', at', sq', fell', e) ∧ St N S' T' L' l' (i + 1) fr sz ep' at' sq' fell' := by
  have hg := h.g
  have hN := h.d.n
  have f0 := hg.f0
  have z0 := hg.z0
  have fz := hg.fz
  have e0 := hg.e0
  have e1 := hg.e1
  have a0 := hg.a0
  have a1 := hg.a1
  have q0 := hg.q0
  have q1 := hg.q1
  have hll := h.d.ll
  have same : St N S T L l (i + 1) fr sz ep at_ sq fell := ⟨h.d.more (by omega), hg, fun hf => by have := h.c hf; omega⟩
  rw [m13_wal_Log_Reset, m14_quirref_Log_Reset]
  cases fell with
  | true => rw [if_pos rfl, if_pos rfl]; exact ⟨_, _, _, _, _, _, _, _, _, rfl, rfl, same⟩
  | false =>
    rw [if_neg ff, if_neg ff, m13_wal_Log_Reset_K1, m14_quirref_Log_Reset_K1]
    by_cases c1 : (300 : Int) < s.length
    · rw [if_pos c1, if_pos c1]; exact ⟨_, _, _, _, _, _, _, _, _, rfl, rfl, same⟩
    obtain ⟨Ls, g1, g2, g3, g4, g5⟩ := sec_eq (e := ep + 1) (q := 0) ⟨by omega, by omega⟩ ⟨by omega, by omega⟩ (s := s) (by omega)
    rw [if_neg c1, if_neg c1, m13_wal_Log_Reset_K2, m14_quirref_Log_Reset_K2, i64_ok (by omega) (by omega), bind1_some, bind1_some, g1, g2, bind1_some, bind1_some]
    by_cases c2 : 1 < (Ls.length : Int)
    · rw [if_pos c2, if_pos (by omega)]; exact ⟨_, _, _, _, _, _, _, _, _, rfl, rfl, same⟩
    rw [if_neg c2, if_neg (by omega), m13_wal_Log_Reset_K3, m14_quirref_Log_Reset_K3]
    have hc := h.c rfl
    have hL0 : idx Ls 0 = some Ls[0] := idx_ok (i := 0) g4
    obtain ⟨S', T', L', l', ep', f', e, r1, r2, r3, r4, r5, r6, r7⟩ := raise_eq h.d (by omega) fr e0 e1 sz at_ sq false
    rw [r1, r2, bind7_some, bind8_some]
    by_cases c3 : e = 0
    · obtain ⟨rfl, rfl, rfl⟩ := r6 c3
      subst c3
      rw [if_neg (by decide), if_neg (by decide), m13_wal_Log_Reset_K4, m14_quirref_Log_Reset_K4, i64_ok (by omega) (by omega), bind1_some, bind1_some, g1, g2, bind1_some, bind1_some, hL0, bind1_some, bind1_some]
      obtain ⟨T2, L2, l2, e2, w1, w2, w3, w4, w5⟩ := write_eq (r3.more (q' := i + 256) (by simp)) (by omega) (fr + 1) (s := Ls[0]) (s' := Ls[0]) (.inl rfl)
      have hl2 : L2.length ≤ 1 := by
        by_cases c : e2 = 0
        · have := w5 c; simp at this; omega
        · rw [(w4 c).2.1]; simp
      rw [w1, w2, bind4_some, bind5_some]
      by_cases c4 : e2 = 0
      · subst c4
        obtain ⟨S3, L3, l3, e3, v1, v2, v3, v4, v5⟩ := flush_eq w3
        rw [if_neg (by simp), if_pos (by simp), m13_wal_Log_Reset_K5, v1, v2, bind5_some, bind6_some, m14_quirref_Log_Reset_K5]
        by_cases c5 : e3 = 0
        · obtain rfl := v5 c5
          subst c5
          rw [if_neg (by simp), if_pos (by simp), m14_quirref_Log_Reset_K6, if_neg (by simp), m14_quirref_Log_Reset_K7]
          exact ⟨_, _, _, _, _, _, _, _, _, rfl, rfl, ⟨v3.more (by simp), ⟨f0, z0, fz, r4, r5, by omega, by omega, by omega, by omega⟩, fun _ => by simp; omega⟩⟩
        · have hl3 : L3.length ≤ 1 := by rw [(v4 c5).2.1]; exact hl2
          rw [if_pos (by simpa using c5), if_neg ff, m13_wal_Log_Reset_K6, if_neg (by simpa using c5), m14_quirref_Log_Reset_K6, if_pos (by simpa using c5), m14_quirref_Log_Reset_K7]
          refine ⟨_, _, _, _, _, _, _, _, _, rfl, ?_, ⟨v3.more (by omega), ⟨f0, z0, fz, r4, r5, a0, a1, q0, q1⟩, fun hf => absurd hf (by simpa using c5)⟩⟩
          rw [show decide (e3 ≠ 0) = true by simpa using c5]
      · rw [if_pos (by simpa using c4), if_neg ff, m13_wal_Log_Reset_K7, if_neg (by simpa using c4), m14_quirref_Log_Reset_K5, if_neg (by simpa using c4), m14_quirref_Log_Reset_K6, if_pos (by simpa using c4), m14_quirref_Log_Reset_K7]
        refine ⟨_, _, _, _, _, _, _, _, _, rfl, ?_, ⟨w3.more (by omega), ⟨f0, z0, fz, r4, r5, a0, a1, q0, q1⟩, fun hf => absurd hf (by simpa using c4)⟩⟩
        rw [show decide (e2 ≠ 0) = true by simpa using c4]
    · rw [if_pos c3, if_pos c3]
      exact ⟨_, _, _, _, _, _, _, _, _, rfl, rfl, ⟨r3.more (by have := r3.ll; omega), ⟨f0, z0, fz, r4, r5, a0, a1, q0, q1⟩, fun hf => by have := r7 hf; omega⟩⟩
end
end Go.Proofs.YtinchlfaepjfiaaDoor
