import Derived.Test.YtaipghemddjecaaTpz
namespace Go.Proofs.Ytaipghemddjecaa
open Go.RowKit
open Go.Maps (Keyed)
set_option linter.unusedVariables false
set_option linter.unusedSimpArgs false
set_option maxRecDepth 100000
abbrev TC (s : TS) : Array Value := yv [.string s.t, .int .i64 s.a, .int .i64 s.e] (Value.int .i8) s.b [.int .i64 s.tu, .int .i64 s.ca, .int .i64 s.ep, .int .i64 s.ki, .int .i64 s.go, .int .i64 s.n, .bool s.hf, .bool s.tr, .bool s.se, .int .i64 s.mx, .int .i64 s.rt, .int .i64 s.sd, s.le]
structure RB (w : World) (g : Nat) (s : TS) : Prop where
  len : s.b.length = 64
  blk : Blk w g 40 (TC s)
theorem word_calls (s : TS) (u : ByteArray) {g : Nat} {w : World} (hB : RB w g s) (hs : s.ok) (hu : u.size ≤ 1000) : Calls Try.prog 16 #[.pointer (some ⟨g, 0, none⟩), .string u] w fun e w' => e = .returned (.tuple #[]) ∧ RB w' g (wordR u s) ∧ Bex g w.heap.size w w' :=
  (i_task_reader_word.calls 30000 s.t s.a s.e s.b s.tu s.ca s.ep s.ki s.go s.n s.hf s.tr s.se s.mx s.rt s.sd s.le u hB.len (wordR u s).t (wordR u s).a (wordR u s).e (wordR u s).b (wordR u s).tu (wordR u s).ca (wordR u s).ep (wordR u s).ki (wordR u s).go (wordR u s).n (wordR u s).hf (wordR u s).tr (wordR u s).se (wordR u s).mx (wordR u s).rt (wordR u s).sd (wordR u s).le g w hB.blk (word_r s u hs hu)).mono fun e w' ⟨h1, h2, h3, h4⟩ => ⟨h1, ⟨h2, h3⟩, h4⟩
theorem oneOf_calls (s : TS) (ws : List ByteArray) (v : Value) {g : Nat} {w : World} (hB : RB w g s) (hs : s.ok) (hv : SlT w 9 v (ws.map Value.string)) (hn : ws.length ≤ 100) (hw : ∀ i, i < ws.length → (wd ws i).size ≤ 1000) :
    Calls Try.prog 14 #[.pointer (some ⟨g, 0, none⟩), v] w fun e w' => e = .returned (.int .i64 (oneR ws s).1) ∧ RB w' g (oneR ws s).2 ∧ Bex g w.heap.size w w' :=
  (i_task_reader_oneOf.calls 30000 s.t s.a s.e s.b s.tu s.ca s.ep s.ki s.go s.n s.hf s.tr s.se s.mx s.rt s.sd s.le v ws hB.len (oneR ws s).1 (oneR ws s).2.t (oneR ws s).2.a (oneR ws s).2.e (oneR ws s).2.b (oneR ws s).2.tu (oneR ws s).2.ca (oneR ws s).2.ep (oneR ws s).2.ki (oneR ws s).2.go (oneR ws s).2.n (oneR ws s).2.hf (oneR ws s).2.tr (oneR ws s).2.se (oneR ws s).2.mx (oneR ws s).2.rt (oneR ws s).2.sd (oneR ws s).2.le g w hB.blk hv (one_r s ws hs hn hw (k := 30000) (by omega))).mono fun e w' ⟨h1, h2, h3, h4⟩ => ⟨h1, ⟨h2, h3⟩, h4⟩
theorem diag_calls (s : TS) {g : Nat} {w : World} (hB : RB w g s) (hs : s.ok) : Calls Try.prog 7 #[.pointer (some ⟨g, 0, none⟩)] w fun e w' => e = .returned (.tuple #[]) ∧ RB w' g (diagR s) ∧ Bex g w.heap.size w w' :=
  (i_task_reader_diagram.calls 30000 s.t s.a s.e s.b s.tu s.ca s.ep s.ki s.go s.n s.hf s.tr s.se s.mx s.rt s.sd s.le hB.len (diagR s).t (diagR s).a (diagR s).e (diagR s).b (diagR s).tu (diagR s).ca (diagR s).ep (diagR s).ki (diagR s).go (diagR s).n (diagR s).hf (diagR s).tr (diagR s).se (diagR s).mx (diagR s).rt (diagR s).sd (diagR s).le g w hB.blk (diag_r s hs)).mono fun e w' ⟨h1, h2, h3, h4⟩ => ⟨h1, ⟨h2, h3⟩, h4⟩
theorem stipu_calls (s : TS) {g : Nat} {w : World} (hB : RB w g s) (hs : s.ok) : Calls Try.prog 8 #[.pointer (some ⟨g, 0, none⟩)] w fun e w' => e = .returned (.tuple #[]) ∧ RB w' g (stipR s) ∧ Bex g w.heap.size w w' :=
  (i_task_reader_stipulation.calls 30000 s.t s.a s.e s.b s.tu s.ca s.ep s.ki s.go s.n s.hf s.tr s.se s.mx s.rt s.sd s.le hB.len (stipR s).t (stipR s).a (stipR s).e (stipR s).b (stipR s).tu (stipR s).ca (stipR s).ep (stipR s).ki (stipR s).go (stipR s).n (stipR s).hf (stipR s).tr (stipR s).se (stipR s).mx (stipR s).rt (stipR s).sd (stipR s).le g w hB.blk (stipu_r s hs)).mono fun e w' ⟨h1, h2, h3, h4⟩ => ⟨h1, ⟨h2, h3⟩, h4⟩
theorem o0_calls (s : TS) {g : Nat} {w : World} (hB : RB w g s) (hs : s.ok) : Calls Try.prog 18 #[.pointer (some ⟨g, 0, none⟩)] w fun e w' => e = .returned (.tuple #[]) ∧ RB w' g (castleR (wordR spB s)) ∧ Bex g w.heap.size w w' :=
  (i_task_options_5.calls 30000 s.t s.a s.e s.b s.tu s.ca s.ep s.ki s.go s.n s.hf s.tr s.se s.mx s.rt s.sd s.le hB.len (castleR (wordR spB s)).t (castleR (wordR spB s)).a (castleR (wordR spB s)).e (castleR (wordR spB s)).b (castleR (wordR spB s)).tu (castleR (wordR spB s)).ca (castleR (wordR spB s)).ep (castleR (wordR spB s)).ki (castleR (wordR spB s)).go (castleR (wordR spB s)).n (castleR (wordR spB s)).hf (castleR (wordR spB s)).tr (castleR (wordR spB s)).se (castleR (wordR spB s)).mx (castleR (wordR spB s)).rt (castleR (wordR spB s)).sd (castleR (wordR spB s)).le g w hB.blk (opcastle_r s hs)).mono fun e w' ⟨h1, h2, h3, h4⟩ => ⟨h1, ⟨h2, h3⟩, h4⟩
theorem o1_calls (s : TS) {g : Nat} {w : World} (hB : RB w g s) (hs : s.ok) : Calls Try.prog 20 #[.pointer (some ⟨g, 0, none⟩)] w fun e w' => e = .returned (.tuple #[]) ∧ RB w' g (sqR (wordR spB s)) ∧ Bex g w.heap.size w w' :=
  (i_task_options_6.calls 30000 s.t s.a s.e s.b s.tu s.ca s.ep s.ki s.go s.n s.hf s.tr s.se s.mx s.rt s.sd s.le hB.len (sqR (wordR spB s)).t (sqR (wordR spB s)).a (sqR (wordR spB s)).e (sqR (wordR spB s)).b (sqR (wordR spB s)).tu (sqR (wordR spB s)).ca (sqR (wordR spB s)).ep (sqR (wordR spB s)).ki (sqR (wordR spB s)).go (sqR (wordR spB s)).n (sqR (wordR spB s)).hf (sqR (wordR spB s)).tr (sqR (wordR spB s)).se (sqR (wordR spB s)).mx (sqR (wordR spB s)).rt (sqR (wordR spB s)).sd (sqR (wordR spB s)).le g w hB.blk (ep_r s hs)).mono fun e w' ⟨h1, h2, h3, h4⟩ => ⟨h1, ⟨h2, h3⟩, h4⟩
theorem o2_calls (s : TS) {g : Nat} {w : World} (hB : RB w g s) (hs : s.ok) : Calls Try.prog 15 #[.pointer (some ⟨g, 0, none⟩)] w fun e w' => e = .returned (.tuple #[]) ∧ RB w' g (maxR s) ∧ Bex g w.heap.size w w' :=
  (i_task_options_4.calls 30000 s.t s.a s.e s.b s.tu s.ca s.ep s.ki s.go s.n s.hf s.tr s.se s.mx s.rt s.sd s.le hB.len (maxR s).t (maxR s).a (maxR s).e (maxR s).b (maxR s).tu (maxR s).ca (maxR s).ep (maxR s).ki (maxR s).go (maxR s).n (maxR s).hf (maxR s).tr (maxR s).se (maxR s).mx (maxR s).rt (maxR s).sd (maxR s).le g w hB.blk (max_r s hs)).mono fun e w' ⟨h1, h2, h3, h4⟩ => ⟨h1, ⟨h2, h3⟩, h4⟩
theorem o3_calls (s : TS) {g : Nat} {w : World} (hB : RB w g s) (hs : s.ok) : Calls Try.prog 23 #[.pointer (some ⟨g, 0, none⟩)] w fun e w' => e = .returned (.tuple #[]) ∧ RB w' g (retroR s) ∧ Bex g w.heap.size w w' :=
  (i_task_options_7.calls 30000 s.t s.a s.e s.b s.tu s.ca s.ep s.ki s.go s.n s.hf s.tr s.se s.mx s.rt s.sd s.le hB.len (retroR s).t (retroR s).a (retroR s).e (retroR s).b (retroR s).tu (retroR s).ca (retroR s).ep (retroR s).ki (retroR s).go (retroR s).n (retroR s).hf (retroR s).tr (retroR s).se (retroR s).mx (retroR s).rt (retroR s).sd (retroR s).le g w hB.blk (retro_r s hs)).mono fun e w' ⟨h1, h2, h3, h4⟩ => ⟨h1, ⟨h2, h3⟩, h4⟩
theorem o5_calls (s : TS) {g : Nat} {w : World} (hB : RB w g s) (hs : s.ok) : Calls Try.prog 13 #[.pointer (some ⟨g, 0, none⟩)] w fun e w' => e = .returned (.tuple #[]) ∧ RB w' g (sideR s) ∧ Bex g w.heap.size w w' :=
  (i_task_options_3.calls 30000 s.t s.a s.e s.b s.tu s.ca s.ep s.ki s.go s.n s.hf s.tr s.se s.mx s.rt s.sd s.le hB.len (sideR s).t (sideR s).a (sideR s).e (sideR s).b (sideR s).tu (sideR s).ca (sideR s).ep (sideR s).ki (sideR s).go (sideR s).n (sideR s).hf (sideR s).tr (sideR s).se (sideR s).mx (sideR s).rt (sideR s).sd (sideR s).le g w hB.blk (side_r s hs)).mono fun e w' ⟨h1, h2, h3, h4⟩ => ⟨h1, ⟨h2, h3⟩, h4⟩
theorem o4_calls (s : TS) {g : Nat} {w : World} (hB : RB w g s) (hs : s.ok) : Calls Try.prog 12 #[.pointer (some ⟨g, 0, none⟩)] w fun e w' => e = .returned (.tuple #[]) ∧ RB w' g { s with se := true } ∧ Bex g w.heap.size w w' :=
  (i_task_options_2.calls s.t s.a s.e s.b s.tu s.ca s.ep s.ki s.go s.n s.hf s.tr s.se s.mx s.rt s.sd s.le hB.len s.t s.a s.e s.b s.tu s.ca s.ep s.ki s.go s.n s.hf s.tr true s.mx s.rt s.sd s.le g w hB.blk (set_r s)).mono fun e w' ⟨h1, h2, h3, h4⟩ => ⟨h1, ⟨h2, h3⟩, h4⟩
theorem o6_calls (s : TS) {g : Nat} {w : World} (hB : RB w g s) (hs : s.ok) : Calls Try.prog 11 #[.pointer (some ⟨g, 0, none⟩)] w fun e w' => e = .returned (.tuple #[]) ∧ RB w' g { s with tr := true } ∧ Bex g w.heap.size w w' :=
  (i_task_options_1.calls s.t s.a s.e s.b s.tu s.ca s.ep s.ki s.go s.n s.hf s.tr s.se s.mx s.rt s.sd s.le hB.len s.t s.a s.e s.b s.tu s.ca s.ep s.ki s.go s.n s.hf true s.se s.mx s.rt s.sd s.le g w hB.blk (try_r s)).mono fun e w' ⟨h1, h2, h3, h4⟩ => ⟨h1, ⟨h2, h3⟩, h4⟩
def optR (i : Nat) (s : TS) : TS := match i with
  | 0 => castleR (wordR spB s)
  | 1 => sqR (wordR spB s)
  | 2 => maxR s
  | 3 => retroR s
  | 4 => { s with se := true }
  | 5 => sideR s
  | _ => { s with tr := true }
theorem opt_calls : ∀ (i : Nat) (s : TS) {g : Nat} {w : World} (hB : RB w g s) (hs : s.ok), Calls Try.prog (optF i) #[.pointer (some ⟨g, 0, none⟩)] w fun e w' => e = .returned (.tuple #[]) ∧ RB w' g (optR i s) ∧ Bex g w.heap.size w w'
  | 0, s, _, _, hB, hs => o0_calls s hB hs
  | 1, s, _, _, hB, hs => o1_calls s hB hs
  | 2, s, _, _, hB, hs => o2_calls s hB hs
  | 3, s, _, _, hB, hs => o3_calls s hB hs
  | 4, s, _, _, hB, hs => o4_calls s hB hs
  | 5, s, _, _, hB, hs => o5_calls s hB hs
  | n + 6, s, _, _, hB, hs => o6_calls s hB hs
def optionR (L : List Nat) (s : TS) : TS × List Nat :=
  if (oneR (L.map optN) s).2.e = 0 then (wordR nlB (optR (L.getD (oneR (L.map optN) s).1.toNat 0) (oneR (L.map optN) s).2), L.eraseIdx (oneR (L.map optN) s).1.toNat) else ((oneR (L.map optN) s).2, L)
theorem wordR_le (u : ByteArray) (s : TS) : (wordR u s).le = s.le := by unfold wordR; split <;> rfl
theorem oneR_le (ws : List ByteArray) (s : TS) : (oneR ws s).2.le = s.le := by unfold oneR; split <;> rfl
theorem numR_le (l m : Int) (s : TS) : (numR l m s).2.le = s.le := by unfold numR; split <;> rfl
theorem caF_le : ∀ (d fr : Nat) (any : Bool) (s : TS), (caF d fr any s).le = s.le
  | 0, _, _, _ => rfl
  | d + 1, fr, any, s => by
    unfold caF
    split
    · split
      · rfl
      · exact caF_le d _ _ _
    · rfl
theorem castleR_le (s : TS) : (castleR s).le = s.le := by unfold castleR; split; exact caF_le _ _ _ _; rfl
theorem optR_le (i : Nat) (s : TS) : (optR i s).le = s.le := by
  unfold optR
  split
  · exact (castleR_le _).trans (wordR_le _ _)
  · unfold sqR; split <;> exact wordR_le _ _
  · exact (numR_le _ _ _).trans (wordR_le _ _)
  · exact (numR_le _ _ _).trans (wordR_le _ _)
  · rfl
  · exact oneR_le _ _
  · rfl
theorem GoodF.ok {f : TS → TS} (h : GoodF f) {s : TS} (hs : s.ok) : (f s).ok := by
  by_cases he : s.e = 0
  · have b := h.bd he hs.a0 hs.a1
    have := hs.a0
    exact ⟨by rw [b.1]; exact hs.t, by omega, by rw [b.1]; exact b.2.2.1⟩
  · obtain ⟨h1, h2, h3⟩ := h.off s he
    exact ⟨by rw [h1]; exact hs.t, by rw [h2]; exact hs.a0, by rw [h1, h2]; exact hs.a1⟩
theorem optR_good (i : Nat) : GoodF (optR i) := by
  unfold optR
  split
  · exact opcastle_good
  · exact ep_good
  · exact max_good
  · exact retro_good
  · exact set_good.toGoodF
  · exact side_good.toGoodF
  · exact try_good.toGoodF
end Go.Proofs.Ytaipghemddjecaa
