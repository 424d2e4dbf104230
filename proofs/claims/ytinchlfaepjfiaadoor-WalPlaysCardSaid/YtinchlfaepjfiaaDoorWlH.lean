/-
  WalPlays: the law.
  Conditions: none.
-/
import Derived.Test.YtinchlfaepjfiaaDoorWlG
namespace Go.Proofs.YtinchlfaepjfiaaDoor
open Go.S
set_option linter.unusedVariables false
set_option linter.unusedSimpArgs false
theorem equalL (l : SS) (hl : l.length ≤ 1000000) : ∀ (r i : Nat), i + r = l.length → ∀ m, r < m → m8_slices_Equal_string_L1 l l m (i : Int) = some true := by
  intro r
  induction r with
  | zero =>
    intro i hi m hm
    obtain ⟨m, rfl⟩ := dec m hm
    rw [m8_slices_Equal_string_L1, m8_slices_Equal_string_L1B, if_neg (by omega), m8_slices_Equal_string_K2]
  | succ r ih =>
    intro i hi m hm
    obtain ⟨m, rfl⟩ := dec m (by omega)
    have h1 : i < l.length := by omega
    rw [m8_slices_Equal_string_L1, m8_slices_Equal_string_L1B, if_pos (by omega), idx_ok h1, bind1_some, bind1_some, if_neg (by simp), isucc i (by omega), bind1_some, ih (i + 1) (by omega) m (by omega)]
theorem equal_self (l : SS) (hl : l.length ≤ 1000000) : m8_slices_Equal_string l l = some true := by
  rw [m8_slices_Equal_string, if_neg (by simp), m8_slices_Equal_string_K1]
  exact equalL l hl l.length 0 (by omega) big (lt_big (by omega))
abbrev Go2 := Int → Int → Int → Int → Int → Bool → Int → Int → Int → Int → Int → Bool → Int → SS → SS → List Int → SS → Int → SS → SS → List Twrite → Int → Option Bool
/-- The rest, whatever the disks and logs. -/
def Rest (N i : Nat) (go : Go2) : Prop := ∀ (S T : SS) (L : List Twrite) (l : Int) (fr sz ep at_ sq : Int) (fell : Bool), St N S T L l (i + 1) fr sz ep at_ sq fell →
  go fr sz ep at_ sq fell fr sz ep at_ sq fell ((i + 1 : Nat) : Int) T S (LA L) (LX L) l S T L l = some true
section
variable {N : Nat} {S T : SS} {L : List Twrite} {l : Int} {i : Nat} {fr sz ep at_ sq : Int} {fell : Bool} {go : Go2} {x : TDeed} {a1 a2 : Int}
theorem St.room (h : St N S T L l i fr sz ep at_ sq fell) : i64 (sz - at_) = some (sz - at_) := by
  have h1 := h.g.a0
  have h2 := h.g.a1
  have h3 := h.g.fz
  have h4 := h.d.n
  have h5 := h.g.f0
  exact i64_ok (by omega) (by omega)
theorem k19 (h : St N S T L l (i + 1) fr sz ep at_ sq fell) (hi : i < 2590000000000) (hR : Rest N i go) : m3_quirlaw_WalPlays_K19 sz at_ sz at_ (i : Int) go fr ep sq fell fr ep sq fell true T S (LA L) (LX L) l S T L l = some true := by
  rw [m3_quirlaw_WalPlays_K19, if_pos rfl, h.room, bind1_some, m3_quirlaw_WalPlays_K20, h.room, bind1_some, m3_quirlaw_WalPlays_K21, if_neg (by simp), isucc i (by omega), bind1_some]
  exact hR _ _ _ _ _ _ _ _ _ _ h
theorem crashed (h : St N S T L l i fr sz ep at_ sq fell) (hi : i < 2590000000000) (hR : Rest N i go) : m3_quirlaw_WalPlays_K18 S T L l x T S (LA L) (LX L) l a1 a2 (i : Int) go sz at_ sz at_ fr ep sq fell fr ep sq fell true = some true := by
  obtain ⟨S', c1, c2, c3⟩ := crash_eq h.d (by omega) x.Keep
  rw [m3_quirlaw_WalPlays_K18, if_pos rfl, c1, c2, bind4_some, bind5_some]
  rcases open_eq c3 (by omega) a1 a2 with ⟨S2, T2, L2, l2, e, he, o1, o2, o3⟩ | ⟨S2, T2, L2, l2, out, ep2, at2, sq2, o1, o2, o3, o4, o5, o6⟩
  · rw [o1, o2, bindE_inl, bindE_inl]
    dsimp only
    rw [if_pos he, if_pos rfl]
    rfl
  · rw [o1, o2, bindE_inr, bindE_inr]
    dsimp only
    have h2 : St N S2 T2 L2 l2 (i + 1) a1 a2 ep2 at2 sq2 false := ⟨o3.more (by rw [o5]; simp), o4, fun _ => by rw [o5]; have := o4.a0; simp; omega⟩
    rw [if_neg (by decide), m3_quirlaw_WalPlays_K31]
    dsimp only
    rw [if_pos rfl, equal_self out (by omega), bind1_some, if_pos rfl, m3_quirlaw_WalPlays_K32, if_pos rfl]
    dsimp only
    rw [h2.room, bind1_some, m3_quirlaw_WalPlays_K33]
    dsimp only
    rw [h2.room, bind1_some, m3_quirlaw_WalPlays_K34, if_neg (by simp), isucc i (by omega), bind1_some]
    exact hR _ _ _ _ _ _ _ _ _ _ h2
theorem onDisk (h : St N S T L l i fr sz ep at_ sq fell) (hi : i < 2590000000000) (hR : Rest N i go) (hx : x.N ≤ 9223372036854775807) :
    ∀ b, m3_quirlaw_WalPlays_K22 S T L l x T S (LA L) (LX L) l sz at_ sz at_ (i : Int) go fr ep sq fell fr ep sq fell b = some true := by
  have hg := h.g
  have a0 := hg.a0
  have hll := h.d.ll
  have up : ∀ {S' T' : SS} {L' : List Twrite} {l' : Int} {q' : Nat}, Dk N S' T' L' l' q' → L'.length ≤ L.length + 1 → St N S' T' L' l' (i + 1) fr sz ep at_ sq fell := fun d hl => ⟨d.more (by omega), hg, fun hf => by have := h.c hf; omega⟩
  have hd : ∀ z : Int, decide (z = z) = true := fun z => by simp
  have k23 : ∀ b, m3_quirlaw_WalPlays_K23 S T L l x T S (LA L) (LX L) l sz at_ sz at_ (i : Int) go fr ep sq fell fr ep sq fell b = some true := by
    intro b
    cases b with
    | true =>
      obtain ⟨s, e, r1, r2⟩ := read_eq h.d x.N
      rw [m3_quirlaw_WalPlays_K23, if_pos rfl, r1, r2, bind2_some, bind2_some, if_pos rfl, hd]
      exact k19 (up h.d (by omega)) hi hR
    | false =>
      rw [m3_quirlaw_WalPlays_K23, if_neg ff]
      by_cases c2 : x.Kind = 2
      · obtain ⟨S', L', l', e, f1, f2, f3, f4, f5⟩ := flush_eq h.d
        rw [if_pos c2, f1, f2, bind5_some, bind6_some, hd]
        refine k19 (up f3 ?_) hi hR
        by_cases c : e = 0
        · rw [f5 c]; simp
        · rw [(f4 c).2.1]; omega
      rw [if_neg c2]
      by_cases c3 : x.Kind = 3
      · have key : ∀ z : Int, max x.N (-1) = z → m3_quirlaw_WalPlays_K25 sz at_ sz at_ (i : Int) go fr ep sq fell fr ep sq fell T S (LA L) (LX L) S T L x z = some true := by
          rintro z rfl
          rw [m3_quirlaw_WalPlays_K25]
          have d := h.d
          exact k19 (up (q' := i + 256) ⟨d.s, d.t, d.n, d.s64, d.t64, d.late, by omega, by omega, d.ll⟩ (by omega)) hi hR
        rw [if_pos c3, m3_quirlaw_WalPlays_K24]
        by_cases c : x.N < 0
        · rw [if_pos c]; exact key _ (by omega)
        · rw [if_neg c]; exact key _ (by omega)
      rw [if_neg c3]
      obtain ⟨S', c1, c2, c3⟩ := crash_eq h.d (by omega) x.Keep
      rw [c1, c2, bind4_some, bind5_some]
      exact k19 (up c3 (by simp)) hi hR
  intro b
  cases b with
  | true =>
    obtain ⟨T', L', l', e, w1, w2, w3, w4, w5⟩ := write_eq h.d (by omega) x.N (s := x.Text) (s' := x.Text) (.inl rfl)
    rw [m3_quirlaw_WalPlays_K22, if_pos rfl, w1, w2, bind4_some, bind5_some, hd]
    refine k19 (up w3 ?_) hi hR
    by_cases c : e = 0
    · have := w5 c; omega
    · rw [(w4 c).2.1]; omega
  | false =>
    rw [m3_quirlaw_WalPlays_K22, if_neg ff]
    split
    · exact k23 true
    · exact k23 false
theorem deed (h : St N S T L l i fr sz ep at_ sq fell) (hi : i < 2590000000000) (hR : Rest N i go) (hx : x.N ≤ 9223372036854775807) :
    ∀ b, m3_quirlaw_WalPlays_K15 S T L l fr sz ep at_ sq fell x T S (LA L) (LX L) l fr sz ep at_ sq fell (i : Int) go a1 a2 b = some true := by
  have hD := onDisk h hi hR hx
  have k18 : ∀ b, m3_quirlaw_WalPlays_K18 S T L l x T S (LA L) (LX L) l a1 a2 (i : Int) go sz at_ sz at_ fr ep sq fell fr ep sq fell b = some true := by
    intro b
    cases b with
    | true => exact crashed h hi hR
    | false =>
      rw [m3_quirlaw_WalPlays_K18, if_neg ff]
      split
      · exact hD true
      · exact hD false
  have k17 : ∀ b, m3_quirlaw_WalPlays_K17 S T L l fr sz ep at_ sq fell x T S (LA L) (LX L) l fr sz ep at_ sq fell (i : Int) go a1 a2 b = some true := by
    intro b
    cases b with
    | true =>
      obtain ⟨S', T', L', l', ep', at', sq', fell', e, r1, r2, r3⟩ := reset_eq h hi x.Text
      rw [m3_quirlaw_WalPlays_K17, if_pos rfl, r1, r2, bind9_some, bind10_some, if_pos rfl, r3.room, bind1_some, m3_quirlaw_WalPlays_K35, r3.room, bind1_some, m3_quirlaw_WalPlays_K36, if_neg (by simp), isucc i (by omega), bind1_some]
      exact hR _ _ _ _ _ _ _ _ _ _ r3
    | false =>
      rw [m3_quirlaw_WalPlays_K17, if_neg ff]
      split
      · exact k18 true
      split
      · exact k18 true
      · exact k18 false
  have k16 : ∀ b, m3_quirlaw_WalPlays_K16 S T L l fr sz ep at_ sq fell T S (LA L) (LX L) l fr sz ep at_ sq fell (i : Int) go x a1 a2 b = some true := by
    intro b
    cases b with
    | true =>
      obtain ⟨S', L', l', fell', e, r1, r2, r3⟩ := sync_eq h
      rw [m3_quirlaw_WalPlays_K16, if_pos rfl, r1, r2, bind6_some, bind7_some, if_pos rfl, r3.room, bind1_some, m3_quirlaw_WalPlays_K37, r3.room, bind1_some, m3_quirlaw_WalPlays_K38, if_neg (by simp), isucc i (by omega), bind1_some]
      exact hR _ _ _ _ _ _ _ _ _ _ r3
    | false =>
      rw [m3_quirlaw_WalPlays_K16, if_neg ff]
      split
      · exact k17 true
      · exact k17 false
  intro b
  cases b with
  | true =>
    obtain ⟨T', L', l', at', sq', fell', e, r1, r2, r3⟩ := append_eq h hi x.Text
    rw [m3_quirlaw_WalPlays_K15, if_pos rfl, r1, r2, bind8_some, bind9_some, if_pos rfl, r3.room, bind1_some, m3_quirlaw_WalPlays_K39, r3.room, bind1_some, m3_quirlaw_WalPlays_K40, if_neg (by simp), isucc i (by omega), bind1_some]
    exact hR _ _ _ _ _ _ _ _ _ _ r3
  | false =>
    rw [m3_quirlaw_WalPlays_K15, if_neg ff]
    split
    · exact k16 true
    · exact k16 false
end
theorem ends {N : Nat} {S T : SS} {L : List Twrite} {l : Int} {q : Nat} (h : Dk N S T L l q) : ∀ (r i : Nat), i + r = N → ∀ n, r < n → m3_quirlaw_WalPlays_L1 T S T L n (i : Int) = some true := by
  have hN := h.n
  have ht := h.t
  have d : Dk N S T L (-1) q := ⟨h.s, h.t, h.n, h.s64, h.t64, h.late, by omega, by omega, h.ll⟩
  intro r
  induction r with
  | zero =>
    intro i hi n hn
    obtain ⟨n, rfl⟩ := dec n hn
    rw [m3_quirlaw_WalPlays_L1, m3_quirlaw_WalPlays_L1B, if_neg (by omega)]; rfl
  | succ r ih =>
    intro i hi n hn
    obtain ⟨n, rfl⟩ := dec n (by omega)
    have h1 : i < T.length := by omega
    rw [m3_quirlaw_WalPlays_L1, m3_quirlaw_WalPlays_L1B, if_pos (by omega), idx_ok h1, bind1_some, show max (-1 : Int) (-1) = -1 by decide, read_at d (by decide) i h1, bind2_some, if_neg (by simp), if_neg (by simp), isucc i (by omega), bind1_some]
    exact ih (i + 1) (by omega) n (by omega)
theorem deeds (a : List TDeed) (ha : a.length ≤ 2513169434916) (hN : ∀ d ∈ a, d.N ≤ 9223372036854775807) (N : Nat) (a1 a2 : Int) : ∀ (r i : Nat), i + r = a.length → ∀ n, r < n → ∀ (S T : SS) (L : List Twrite) (l fr sz ep at_ sq : Int) (fell : Bool), St N S T L l i fr sz ep at_ sq fell →
    m3_quirlaw_WalPlays_L2 a a1 a2 n fr sz ep at_ sq fell fr sz ep at_ sq fell (i : Int) T S (LA L) (LX L) l S T L l = some true := by
  intro r
  induction r with
  | zero =>
    intro i hi n hn S T L l fr sz ep at_ sq fell h
    obtain ⟨n, rfl⟩ := dec n hn
    have hNn := h.d.n
    rw [m3_quirlaw_WalPlays_L2, m3_quirlaw_WalPlays_L2B, if_neg (by omega), m3_quirlaw_WalPlays_K12, m3_quirlaw_WalPlays_K13]
    exact ends h.d N 0 (by omega) big (lt_big (by omega))
  | succ r ih =>
    intro i hi n hn S T L l fr sz ep at_ sq fell h
    obtain ⟨n, rfl⟩ := dec n (by omega)
    have h1 : i < a.length := by omega
    have hR : Rest N i (m3_quirlaw_WalPlays_L2 a a1 a2 n) := fun S T L l fr sz ep at_ sq fell h => ih (i + 1) (by omega) n (by omega) S T L l fr sz ep at_ sq fell h
    have hx := hN a[i] (List.getElem_mem h1)
    rw [m3_quirlaw_WalPlays_L2, m3_quirlaw_WalPlays_L2B, if_pos (by omega), idx_ok h1, bind1_some]
    split
    · exact deed h (by omega) hR hx true
    split
    · exact deed h (by omega) hR hx true
    split
    · exact deed h (by omega) hR hx true
    · exact deed h (by omega) hR hx false
def Z64 : List UInt8 := List.replicate 64 0
theorem new4 (N : Nat) (hN : N ≤ 256) (a1 a2 : Int) (a3 : List TDeed) : ∀ (r i : Nat), i + r = N → ∀ n, r < n → m3_quirlaw_WalPlays_L4 N a1 a2 a3 n (i : Int) (List.replicate i Z64) = m3_quirlaw_WalPlays_K43 N a1 a2 a3 (List.replicate N Z64) := by
  intro r
  induction r with
  | zero =>
    intro i hi n hn
    obtain ⟨n, rfl⟩ := dec n hn
    obtain rfl : i = N := by omega
    rw [m3_quirlaw_WalPlays_L4, m3_quirlaw_WalPlays_L4B, if_neg (by omega)]
  | succ r ih =>
    intro i hi n hn
    obtain ⟨n, rfl⟩ := dec n (by omega)
    have e : xRepeat [0] 64 = some Z64 := rep_ok 64 (by omega)
    rw [m3_quirlaw_WalPlays_L4, m3_quirlaw_WalPlays_L4B, if_pos (by omega), e, bind1_some, app_ok (by simp; omega), bind1_some, isucc i (by omega), bind1_some, ← List.replicate_succ']
    exact ih (i + 1) (by omega) n (by omega)
theorem new3 (N : Nat) (hN : N ≤ 256) (gl3 gl5 : SS) (a1 a2 : Int) (a3 : List TDeed) : ∀ (r i : Nat), i + r = N → ∀ n, r < n → m3_quirlaw_WalPlays_L3 N gl3 gl5 a1 a2 a3 n (i : Int) (List.replicate i Z64) (List.replicate i Z64) = m3_quirlaw_WalPlays_K41 gl3 gl5 a1 a2 a3 (List.replicate N Z64) (List.replicate N Z64) := by
  intro r
  induction r with
  | zero =>
    intro i hi n hn
    obtain ⟨n, rfl⟩ := dec n hn
    obtain rfl : i = N := by omega
    rw [m3_quirlaw_WalPlays_L3, m3_quirlaw_WalPlays_L3B, if_neg (by omega)]
  | succ r ih =>
    intro i hi n hn
    obtain ⟨n, rfl⟩ := dec n (by omega)
    have e : m23_quirref_blank 64 = some Z64 := blank_ok 64 (by omega)
    rw [m3_quirlaw_WalPlays_L3, m3_quirlaw_WalPlays_L3B, if_pos (by omega), e, bind1_some, app_ok (by simp; omega), bind1_some, bind1_some, app_ok (by simp; omega), bind1_some, isucc i (by omega), bind1_some, ← List.replicate_succ']
    exact ih (i + 1) (by omega) n (by omega)
theorem wal_true (a0 a1 a2 : Int) (a3 : List TDeed) (ha : a3.length ≤ 2513169434916) (hN : ∀ d ∈ a3, d.N ≤ 9223372036854775807) : m3_quirlaw_WalPlays a0 a1 a2 a3 = some true := by
  rw [m3_quirlaw_WalPlays]
  by_cases c1 : a0 < 1
  · rw [if_pos c1, m3_quirlaw_WalPlays_K1, if_pos (by decide), if_pos rfl, if_pos c1]
  by_cases c2 : 256 < a0
  · rw [if_neg c1, if_pos c2, m3_quirlaw_WalPlays_K1, if_pos (by decide), if_pos rfl, if_neg c1]; simp [c2]
  obtain ⟨N, rfl⟩ := Int.eq_ofNat_of_zero_le (show 0 ≤ a0 by omega)
  rw [if_neg c1, if_neg c2, m3_quirlaw_WalPlays_K42]
  have e4 := new4 N (by omega) a1 a2 a3 N 0 (by omega) big (lt_big (by omega))
  rw [List.replicate_zero, show ((0 : Nat) : Int) = 0 from rfl] at e4
  rw [e4, m3_quirlaw_WalPlays_K43, app_ok (by simp; omega), bind1_some, List.nil_append, m3_quirlaw_WalPlays_K2, if_neg (by simp)]
  have e3 := new3 N (by omega) (List.replicate N Z64) (List.replicate N Z64) a1 a2 a3 N 0 (by omega) big (lt_big (by omega))
  rw [List.replicate_zero, show ((0 : Nat) : Int) = 0 from rfl] at e3
  rw [e3, m3_quirlaw_WalPlays_K41, m3_quirlaw_WalPlays_K3]
  have hz : ∀ x ∈ List.replicate N Z64, x.length = 64 := fun x hx => by rw [(List.mem_replicate.1 hx).2]; simp [Z64]
  have d : Dk N (List.replicate N Z64) (List.replicate N Z64) [] (-1) 0 := ⟨by simp, by simp, by omega, hz, hz, by simp, by omega, by omega, by simp⟩
  rcases open_eq d (by omega) a1 a2 with ⟨S2, T2, L2, l2, e, he, o1, o2, o3⟩ | ⟨S2, T2, L2, l2, out, ep2, at2, sq2, o1, o2, o3, o4, o5, o6⟩
  · have o2' : m7_quirref_OpenLog (List.replicate N Z64) (List.replicate N Z64) [] [] (-1) a1 a2 = some (.inl (T2, S2, LA L2, LX L2, l2, [], e)) := o2
    rw [o1, o2', bindE_inl, bindE_inl]
    dsimp only
    rw [if_neg (by simp), equal_self [] (by simp), bind1_some, if_pos rfl, m3_quirlaw_WalPlays_K4]
    dsimp only
    rw [if_pos he]
  · have o2' : m7_quirref_OpenLog (List.replicate N Z64) (List.replicate N Z64) [] [] (-1) a1 a2 = some (.inr (T2, S2, LA L2, LX L2, l2, out, 0, a1, a2, ep2, at2, sq2, false)) := o2
    have h2 : St N S2 T2 L2 l2 0 a1 a2 ep2 at2 sq2 false := ⟨o3.more (by rw [o5]; simp), o4, fun _ => by rw [o5]; have := o4.a0; simp; omega⟩
    rw [o1, o2', bindE_inr, bindE_inr]
    dsimp only
    rw [if_neg (by simp), equal_self out (by omega), bind1_some, if_pos rfl, m3_quirlaw_WalPlays_K10]
    dsimp only
    rw [if_neg (by simp), m3_quirlaw_WalPlays_K11]
    exact deeds a3 ha hN N a1 a2 a3.length 0 (by omega) big (lt_big (by omega)) S2 T2 L2 l2 a1 a2 ep2 at2 sq2 false h2
end Go.Proofs.YtinchlfaepjfiaaDoor
