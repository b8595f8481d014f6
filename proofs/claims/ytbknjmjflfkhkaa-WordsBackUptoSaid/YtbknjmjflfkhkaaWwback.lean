/- Walks, written by my program walk.py out of the specification wback.py: each theorem says what one function returns and that it leaves memory as it was. -/
import Derived.Test.YtbknjmjflfkhkaaPBack
import Derived.Test.YtbknjmjflfkhkaaWwords
import Derived.Test.YtbknjmjflfkhkaaWwnames
import Derived.Test.YtbknjmjflfkhkaaWweach
import Derived.Test.YtbknjmjflfkhkaaWwlist
import Derived.Test.YtbknjmjflfkhkaaFKk
import Derived.Test.YtbknjmjflfkhkaaProg
namespace Go.Proofs.Ytbknjmjflfkhkaa
open Go Go.RowKit Go.FK
set_option linter.unusedVariables false


set_option maxHeartbeats 4000000 in
set_option maxRecDepth 100000 in
theorem c_furrowlaw05_spoilt (name : List UInt8) (v_how : Value) (how : List (Int)) (w : World) (p_how : Rd w encU8 v_how how) (hn : name.length ≤ 1000) (hr : ∀ x ∈ how, 0 ≤ x ∧ x ≤ 255) :
    Calls Try.prog 38 #[(S name), v_how] w (Ret fun v w' => v = (S (spoiltF name how)) ∧ Below w.heap.size w w') := by
  refine enter (args := [(S name), v_how]) Try.func38 rfl (by kernel_rfl : _ = 75) (by kernel_rfl) ?_
  have hb := Below.refl w.heap.size w
  have hs : w.heap.size ≤ w.heap.size := Nat.le_refl _
  have in_p_how := p_how
  refine W_seq (W_region (L_as (L_nil (thenQ_normal (W_seq (W_region (L_as (L_nil (thenQ_normal (W_seq (W_seq (W_region (L_as (L_nil (thenQ_normal (W_block ?_))))))))))))))))
  refine W_loop (fun m s0 w0 => ∃ (i : Nat) (acc : List UInt8), (m = name.length - i) ∧ (s0.ds = []) ∧ (s0.f 0 = (S name)) ∧ (s0.f 1 = v_how) ∧ (s0.f 4 = (S ([] : List UInt8))) ∧ (s0.f 5 = (S acc)) ∧ (s0.f 6 = (.int .i64 ((i : Nat) : Int))) ∧ (Rd w0 encU8 v_how how) ∧ (Below w.heap.size w w0) ∧ (w.heap.size ≤ w0.heap.size) ∧ (i ≤ name.length) ∧ (acc = spoiltTo name how i)) _ ⟨0, ([] : List UInt8), rfl, by kernel_rfl, by kernel_rfl, by kernel_rfl, by kernel_rfl, by kernel_rfl, by kernel_rfl, p_how, hb, hs, by omega, rfl⟩ ?_
  rintro m1 s2 w3 ⟨i, acc, hm, hds, f_0, f_1, f_4, f_5, f_6, p_how, hb, hs, i1, i3⟩
  refine W_set 0 _ f_0 (W_set 1 _ f_1 (W_set 4 _ f_4 (W_set 5 _ f_5 (W_set 6 _ f_6 ?_))))
  clear f_0 f_1 f_4 f_5 f_6
  have hal : acc.length ≤ 5 * i := by rw [i3]; exact spoiltTo_len name how i
  refine W_seq (W_seq (W_region (L_mv (L_mv (L_slen 9 name rfl Try.underlying9 (by kernel_rfl) (L_cmp .i64 ((i : Nat) : Int) (((name).length : Nat) : Int) (i < (name).length) rfl (cmpN_lt i ((name).length)) (by kernel_rfl) (by kernel_rfl) ?_ ?_))))))
  · intro h4
    replace h4 : i < (name).length := by omega
    refine L_nil (thenQ_normal (W_true (by kernel_rfl) (W_skip (thenQ_normal (W_seq (W_block (W_seq (W_region (L_as (L_nil (thenQ_normal ?_)))))))))))
    refine W_cut (fun s0 w0 => ∃ (k : Int), (s0.ds = []) ∧ (s0.f 0 = (S name)) ∧ (s0.f 1 = v_how) ∧ (s0.f 4 = (S ([] : List UInt8))) ∧ (s0.f 5 = (S acc)) ∧ (s0.f 6 = (.int .i64 ((i : Nat) : Int))) ∧ (s0.f 7 = (.int .u8 k)) ∧ (Rd w0 encU8 v_how how) ∧ (Below w.heap.size w w0) ∧ (w.heap.size ≤ w0.heap.size) ∧ (0 ≤ k ∧ k ≤ 255) ∧ (howAt how i = k.toNat)) ?_ ?_
    · refine W_seq (W_region (L_mv (L_mv (L_len 56 5 (how).length v_how rfl Try.underlying56 (p_how).len (by kernel_rfl) (L_cmp .i64 ((i : Nat) : Int) (((how).length : Nat) : Int) (i < (how).length) rfl (cmpN_lt i ((how).length)) (by kernel_rfl) (by kernel_rfl) ?_ ?_)))))
      · intro h5
        replace h5 : i < (how).length := by omega
        refine L_nil (thenQ_normal (W_true (by kernel_rfl) (W_region (L_mv (L_mv ?_)))))
        have hz := get_some how i (by omega); obtain ⟨x6, hx7⟩ := hz
        have hz := (p_how).at (k := 1) (fun _ => rfl) hx7
        obtain ⟨g8, off9, hl10, hc11⟩ := hz
        have hxr := hr _ (List.mem_of_getElem? hx7)
        refine L_ixaddr (k := .i64) v_how i _ g8 off9 el56 hl10 (by omega) (by kernel_rfl) (by kernel_rfl) (L_load g8 (off9 + i * 1) (.int .u8 x6) (by kernel_rfl) (by kernel_rfl) (hc11 0 _ rfl) (L_as (L_nil ?_)))
        refine thenQ_normal ⟨x6, hds, by kernel_rfl, by kernel_rfl, by kernel_rfl, by kernel_rfl, by kernel_rfl, by kernel_rfl, p_how, hb, hs, ?_, ?_⟩
        · omega
        · first | exact howAt_some (by assumption) | (rw [howAt_none (by omega)]; rfl)
      · intro h12
        replace h12 : (how).length ≤ i := by omega
        refine L_nil (thenQ_normal (W_false (by kernel_rfl) (W_skip ?_)))
        refine thenQ_normal ⟨0, hds, by kernel_rfl, by kernel_rfl, by kernel_rfl, by kernel_rfl, by kernel_rfl, by kernel_rfl, p_how, hb, hs, ?_, ?_⟩
        · omega
        · first | exact howAt_some (by assumption) | (rw [howAt_none (by omega)]; rfl)
    · rintro s13 w14 ⟨k, hds, f_0, f_1, f_4, f_5, f_6, f_7, p_how, hb, hs, jr, jk⟩
      refine W_set 0 _ f_0 (W_set 1 _ f_1 (W_set 4 _ f_4 (W_set 5 _ f_5 (W_set 6 _ f_6 (W_set 7 _ f_7 ?_)))))
      clear f_0 f_1 f_4 f_5 f_6 f_7
      refine W_seq (W_region (L_mv (L_mv ?_)))
      have hz := get_some name i (by omega); obtain ⟨c15, hc16⟩ := hz
      have := c15.toNat_lt
      have hzc : ∃ ch, ch = c15 := ⟨_, rfl⟩; obtain ⟨ch, hch⟩ := hzc
      have hcx := hc16
      refine L_sindex (k := .i64) name i c15 Try.underlying9 hc16 (by kernel_rfl) (by kernel_rfl) (L_as (L_nil (thenQ_normal ?_)))
      refine W_cut (fun s0 w0 => ∃ (c1 : Int), (s0.ds = []) ∧ (s0.f 0 = (S name)) ∧ (s0.f 1 = v_how) ∧ (s0.f 4 = (S ([] : List UInt8))) ∧ (s0.f 5 = (S acc)) ∧ (s0.f 6 = (.int .i64 ((i : Nat) : Int))) ∧ (s0.f 7 = (.int .u8 k)) ∧ (s0.f 8 = (.int .u8 c1)) ∧ (Rd w0 encU8 v_how how) ∧ (Below w.heap.size w w0) ∧ (w.heap.size ≤ w0.heap.size) ∧ (c1 = caseF ch.toNat k.toNat)) ?_ ?_
      · refine W_seq (W_region (L_mv (L_and8 k k.toNat 1 (by omega) (by omega) (by kernel_rfl) (by kernel_rfl) (L_cmp .u8 (((k.toNat &&& 1) : Nat) : Int) ((0 : Nat) : Int) ((k.toNat &&& 1) ≠ 0) rfl (cmpN_ne (k.toNat &&& 1) 0) (by kernel_rfl) (by kernel_rfl) ?_ ?_))))
        · intro h17
          replace h17 : (k.toNat &&& 1) ≠ 0 := by omega
          refine L_mv (L_want (by kernel_rfl) (L_mv (L_want (by kernel_rfl) (L_cmp .u8 ((c15.toNat : Nat) : Int) ((97 : Nat) : Int) (97 ≤ c15.toNat) rfl (cmpN_ge c15.toNat 97) (by kernel_rfl) (by kernel_rfl) ?_ ?_))))
          · intro h18
            replace h18 : 97 ≤ c15.toNat := by omega
            refine L_pickT (by kernel_rfl) (L_mv (L_want (by kernel_rfl) (L_mv (L_want (by kernel_rfl) (L_cmp .u8 ((c15.toNat : Nat) : Int) ((122 : Nat) : Int) (c15.toNat ≤ 122) rfl (cmpN_le c15.toNat 122) (by kernel_rfl) (by kernel_rfl) ?_ ?_)))))
            · intro h19
              replace h19 : c15.toNat ≤ 122 := by omega
              refine L_pickT (by kernel_rfl) (L_nil (thenQ_normal (W_true (by kernel_rfl) (W_region (L_mv (L_arith ((c15.toNat : Nat) : Int) 32 (((c15.toNat : Nat) : Int) - 32) rfl (by kernel_rfl) (by kernel_rfl) (wrap_u8 _ (by simp only [arithZ]; omega) (by simp only [arithZ]; omega)) (L_as (L_nil ?_))))))))
              refine thenQ_normal ⟨(((c15.toNat : Nat) : Int) - 32), hds, by kernel_rfl, by kernel_rfl, by kernel_rfl, by kernel_rfl, by kernel_rfl, by kernel_rfl, by kernel_rfl, p_how, hb, hs, ?_⟩
              subst hch; unfold caseF; (repeat' split) <;> omega
            · intro h20
              replace h20 : 122 < c15.toNat := by omega
              refine L_pickT (by kernel_rfl) (L_nil (thenQ_normal (W_false (by kernel_rfl) (W_seq (W_region (L_mv (L_and8 k k.toNat 2 (by omega) (by omega) (by kernel_rfl) (by kernel_rfl) (L_cmp .u8 (((k.toNat &&& 2) : Nat) : Int) ((0 : Nat) : Int) ((k.toNat &&& 2) ≠ 0) rfl (cmpN_ne (k.toNat &&& 2) 0) (by kernel_rfl) (by kernel_rfl) ?_ ?_))))))))
              · intro h21
                replace h21 : (k.toNat &&& 2) ≠ 0 := by omega
                refine L_mv (L_want (by kernel_rfl) (L_mv (L_want (by kernel_rfl) (L_cmp .u8 ((c15.toNat : Nat) : Int) ((65 : Nat) : Int) (65 ≤ c15.toNat) rfl (cmpN_ge c15.toNat 65) (by kernel_rfl) (by kernel_rfl) ?_ ?_))))
                · intro h22
                  replace h22 : 65 ≤ c15.toNat := by omega
                  refine L_pickT (by kernel_rfl) (L_mv (L_want (by kernel_rfl) (L_mv (L_want (by kernel_rfl) (L_cmp .u8 ((c15.toNat : Nat) : Int) ((90 : Nat) : Int) (c15.toNat ≤ 90) rfl (cmpN_le c15.toNat 90) (by kernel_rfl) (by kernel_rfl) ?_ ?_)))))
                  · intro h23
                    replace h23 : c15.toNat ≤ 90 := by omega
                    refine L_pickT (by kernel_rfl) (L_nil (thenQ_normal (W_true (by kernel_rfl) (W_region (L_mv (L_arith ((c15.toNat : Nat) : Int) 32 (((c15.toNat : Nat) : Int) + 32) rfl (by kernel_rfl) (by kernel_rfl) (wrap_u8 _ (by simp only [arithZ]; omega) (by simp only [arithZ]; omega)) (L_as (L_nil ?_))))))))
                    refine thenQ_normal ⟨(((c15.toNat : Nat) : Int) + 32), hds, by kernel_rfl, by kernel_rfl, by kernel_rfl, by kernel_rfl, by kernel_rfl, by kernel_rfl, by kernel_rfl, p_how, hb, hs, ?_⟩
                    subst hch; unfold caseF; (repeat' split) <;> omega
                  · intro h24
                    replace h24 : 90 < c15.toNat := by omega
                    refine L_pickT (by kernel_rfl) (L_nil (thenQ_normal (W_false (by kernel_rfl) (W_skip ?_))))
                    refine thenQ_normal ⟨((c15.toNat : Nat) : Int), hds, by kernel_rfl, by kernel_rfl, by kernel_rfl, by kernel_rfl, by kernel_rfl, by kernel_rfl, by kernel_rfl, p_how, hb, hs, ?_⟩
                    subst hch; unfold caseF; (repeat' split) <;> omega
                · intro h25
                  replace h25 : c15.toNat < 65 := by omega
                  refine L_pickT (by kernel_rfl) (L_mv (L_skip (by kernel_rfl) (L_skip (by kernel_rfl) (L_pickF (by kernel_rfl) (L_nil (thenQ_normal (W_false (by kernel_rfl) (W_skip ?_))))))))
                  refine thenQ_normal ⟨((c15.toNat : Nat) : Int), hds, by kernel_rfl, by kernel_rfl, by kernel_rfl, by kernel_rfl, by kernel_rfl, by kernel_rfl, by kernel_rfl, p_how, hb, hs, ?_⟩
                  subst hch; unfold caseF; (repeat' split) <;> omega
              · intro h26
                replace h26 : (k.toNat &&& 2) = 0 := by omega
                refine L_mv (L_skip (by kernel_rfl) (L_skip (by kernel_rfl) (L_pickF (by kernel_rfl) (L_mv (L_skip (by kernel_rfl) (L_skip (by kernel_rfl) (L_pickF (by kernel_rfl) (L_nil (thenQ_normal (W_false (by kernel_rfl) (W_skip ?_)))))))))))
                refine thenQ_normal ⟨((c15.toNat : Nat) : Int), hds, by kernel_rfl, by kernel_rfl, by kernel_rfl, by kernel_rfl, by kernel_rfl, by kernel_rfl, by kernel_rfl, p_how, hb, hs, ?_⟩
                subst hch; unfold caseF; (repeat' split) <;> omega
          · intro h27
            replace h27 : c15.toNat < 97 := by omega
            refine L_pickT (by kernel_rfl) (L_mv (L_skip (by kernel_rfl) (L_skip (by kernel_rfl) (L_pickF (by kernel_rfl) (L_nil (thenQ_normal (W_false (by kernel_rfl) (W_seq (W_region (L_mv (L_and8 k k.toNat 2 (by omega) (by omega) (by kernel_rfl) (by kernel_rfl) (L_cmp .u8 (((k.toNat &&& 2) : Nat) : Int) ((0 : Nat) : Int) ((k.toNat &&& 2) ≠ 0) rfl (cmpN_ne (k.toNat &&& 2) 0) (by kernel_rfl) (by kernel_rfl) ?_ ?_))))))))))))
            · intro h28
              replace h28 : (k.toNat &&& 2) ≠ 0 := by omega
              refine L_mv (L_want (by kernel_rfl) (L_mv (L_want (by kernel_rfl) (L_cmp .u8 ((c15.toNat : Nat) : Int) ((65 : Nat) : Int) (65 ≤ c15.toNat) rfl (cmpN_ge c15.toNat 65) (by kernel_rfl) (by kernel_rfl) ?_ ?_))))
              · intro h29
                replace h29 : 65 ≤ c15.toNat := by omega
                refine L_pickT (by kernel_rfl) (L_mv (L_want (by kernel_rfl) (L_mv (L_want (by kernel_rfl) (L_cmp .u8 ((c15.toNat : Nat) : Int) ((90 : Nat) : Int) (c15.toNat ≤ 90) rfl (cmpN_le c15.toNat 90) (by kernel_rfl) (by kernel_rfl) ?_ ?_)))))
                · intro h30
                  replace h30 : c15.toNat ≤ 90 := by omega
                  refine L_pickT (by kernel_rfl) (L_nil (thenQ_normal (W_true (by kernel_rfl) (W_region (L_mv (L_arith ((c15.toNat : Nat) : Int) 32 (((c15.toNat : Nat) : Int) + 32) rfl (by kernel_rfl) (by kernel_rfl) (wrap_u8 _ (by simp only [arithZ]; omega) (by simp only [arithZ]; omega)) (L_as (L_nil ?_))))))))
                  refine thenQ_normal ⟨(((c15.toNat : Nat) : Int) + 32), hds, by kernel_rfl, by kernel_rfl, by kernel_rfl, by kernel_rfl, by kernel_rfl, by kernel_rfl, by kernel_rfl, p_how, hb, hs, ?_⟩
                  subst hch; unfold caseF; (repeat' split) <;> omega
                · intro h31
                  replace h31 : 90 < c15.toNat := by omega
                  refine L_pickT (by kernel_rfl) (L_nil (thenQ_normal (W_false (by kernel_rfl) (W_skip ?_))))
                  refine thenQ_normal ⟨((c15.toNat : Nat) : Int), hds, by kernel_rfl, by kernel_rfl, by kernel_rfl, by kernel_rfl, by kernel_rfl, by kernel_rfl, by kernel_rfl, p_how, hb, hs, ?_⟩
                  subst hch; unfold caseF; (repeat' split) <;> omega
              · intro h32
                replace h32 : c15.toNat < 65 := by omega
                refine L_pickT (by kernel_rfl) (L_mv (L_skip (by kernel_rfl) (L_skip (by kernel_rfl) (L_pickF (by kernel_rfl) (L_nil (thenQ_normal (W_false (by kernel_rfl) (W_skip ?_))))))))
                refine thenQ_normal ⟨((c15.toNat : Nat) : Int), hds, by kernel_rfl, by kernel_rfl, by kernel_rfl, by kernel_rfl, by kernel_rfl, by kernel_rfl, by kernel_rfl, p_how, hb, hs, ?_⟩
                subst hch; unfold caseF; (repeat' split) <;> omega
            · intro h33
              replace h33 : (k.toNat &&& 2) = 0 := by omega
              refine L_mv (L_skip (by kernel_rfl) (L_skip (by kernel_rfl) (L_pickF (by kernel_rfl) (L_mv (L_skip (by kernel_rfl) (L_skip (by kernel_rfl) (L_pickF (by kernel_rfl) (L_nil (thenQ_normal (W_false (by kernel_rfl) (W_skip ?_)))))))))))
              refine thenQ_normal ⟨((c15.toNat : Nat) : Int), hds, by kernel_rfl, by kernel_rfl, by kernel_rfl, by kernel_rfl, by kernel_rfl, by kernel_rfl, by kernel_rfl, p_how, hb, hs, ?_⟩
              subst hch; unfold caseF; (repeat' split) <;> omega
        · intro h34
          replace h34 : (k.toNat &&& 1) = 0 := by omega
          refine L_mv (L_skip (by kernel_rfl) (L_skip (by kernel_rfl) (L_pickF (by kernel_rfl) (L_mv (L_skip (by kernel_rfl) (L_skip (by kernel_rfl) (L_pickF (by kernel_rfl) (L_nil (thenQ_normal (W_false (by kernel_rfl) (W_seq (W_region (L_mv (L_and8 k k.toNat 2 (by omega) (by omega) (by kernel_rfl) (by kernel_rfl) (L_cmp .u8 (((k.toNat &&& 2) : Nat) : Int) ((0 : Nat) : Int) ((k.toNat &&& 2) ≠ 0) rfl (cmpN_ne (k.toNat &&& 2) 0) (by kernel_rfl) (by kernel_rfl) ?_ ?_)))))))))))))))
          · intro h35
            replace h35 : (k.toNat &&& 2) ≠ 0 := by omega
            refine L_mv (L_want (by kernel_rfl) (L_mv (L_want (by kernel_rfl) (L_cmp .u8 ((c15.toNat : Nat) : Int) ((65 : Nat) : Int) (65 ≤ c15.toNat) rfl (cmpN_ge c15.toNat 65) (by kernel_rfl) (by kernel_rfl) ?_ ?_))))
            · intro h36
              replace h36 : 65 ≤ c15.toNat := by omega
              refine L_pickT (by kernel_rfl) (L_mv (L_want (by kernel_rfl) (L_mv (L_want (by kernel_rfl) (L_cmp .u8 ((c15.toNat : Nat) : Int) ((90 : Nat) : Int) (c15.toNat ≤ 90) rfl (cmpN_le c15.toNat 90) (by kernel_rfl) (by kernel_rfl) ?_ ?_)))))
              · intro h37
                replace h37 : c15.toNat ≤ 90 := by omega
                refine L_pickT (by kernel_rfl) (L_nil (thenQ_normal (W_true (by kernel_rfl) (W_region (L_mv (L_arith ((c15.toNat : Nat) : Int) 32 (((c15.toNat : Nat) : Int) + 32) rfl (by kernel_rfl) (by kernel_rfl) (wrap_u8 _ (by simp only [arithZ]; omega) (by simp only [arithZ]; omega)) (L_as (L_nil ?_))))))))
                refine thenQ_normal ⟨(((c15.toNat : Nat) : Int) + 32), hds, by kernel_rfl, by kernel_rfl, by kernel_rfl, by kernel_rfl, by kernel_rfl, by kernel_rfl, by kernel_rfl, p_how, hb, hs, ?_⟩
                subst hch; unfold caseF; (repeat' split) <;> omega
              · intro h38
                replace h38 : 90 < c15.toNat := by omega
                refine L_pickT (by kernel_rfl) (L_nil (thenQ_normal (W_false (by kernel_rfl) (W_skip ?_))))
                refine thenQ_normal ⟨((c15.toNat : Nat) : Int), hds, by kernel_rfl, by kernel_rfl, by kernel_rfl, by kernel_rfl, by kernel_rfl, by kernel_rfl, by kernel_rfl, p_how, hb, hs, ?_⟩
                subst hch; unfold caseF; (repeat' split) <;> omega
            · intro h39
              replace h39 : c15.toNat < 65 := by omega
              refine L_pickT (by kernel_rfl) (L_mv (L_skip (by kernel_rfl) (L_skip (by kernel_rfl) (L_pickF (by kernel_rfl) (L_nil (thenQ_normal (W_false (by kernel_rfl) (W_skip ?_))))))))
              refine thenQ_normal ⟨((c15.toNat : Nat) : Int), hds, by kernel_rfl, by kernel_rfl, by kernel_rfl, by kernel_rfl, by kernel_rfl, by kernel_rfl, by kernel_rfl, p_how, hb, hs, ?_⟩
              subst hch; unfold caseF; (repeat' split) <;> omega
          · intro h40
            replace h40 : (k.toNat &&& 2) = 0 := by omega
            refine L_mv (L_skip (by kernel_rfl) (L_skip (by kernel_rfl) (L_pickF (by kernel_rfl) (L_mv (L_skip (by kernel_rfl) (L_skip (by kernel_rfl) (L_pickF (by kernel_rfl) (L_nil (thenQ_normal (W_false (by kernel_rfl) (W_skip ?_)))))))))))
            refine thenQ_normal ⟨((c15.toNat : Nat) : Int), hds, by kernel_rfl, by kernel_rfl, by kernel_rfl, by kernel_rfl, by kernel_rfl, by kernel_rfl, by kernel_rfl, p_how, hb, hs, ?_⟩
            subst hch; unfold caseF; (repeat' split) <;> omega
      · rintro s41 w42 ⟨c1, hds, f_0, f_1, f_4, f_5, f_6, f_7, f_8, p_how, hb, hs, j2⟩
        refine W_set 0 _ f_0 (W_set 1 _ f_1 (W_set 4 _ f_4 (W_set 5 _ f_5 (W_set 6 _ f_6 (W_set 7 _ f_7 (W_set 8 _ f_8 ?_))))))
        clear f_0 f_1 f_4 f_5 f_6 f_7 f_8
        refine W_cut (fun s0 w0 => ∃ (a1 : List UInt8), (s0.ds = []) ∧ (s0.f 0 = (S name)) ∧ (s0.f 1 = v_how) ∧ (s0.f 4 = (S ([] : List UInt8))) ∧ (s0.f 6 = (.int .i64 ((i : Nat) : Int))) ∧ (s0.f 7 = (.int .u8 k)) ∧ (s0.f 8 = (.int .u8 c1)) ∧ (s0.f 5 = (S a1)) ∧ (Rd w0 encU8 v_how how) ∧ (Below w.heap.size w w0) ∧ (w.heap.size ≤ w0.heap.size) ∧ (a1 = acc ++ (if k.toNat &&& 4 ≠ 0 then [95] else []))) ?_ ?_
        · refine W_seq (W_region (L_mv (L_and8 k k.toNat 4 (by omega) (by omega) (by kernel_rfl) (by kernel_rfl) (L_cmp .u8 (((k.toNat &&& 4) : Nat) : Int) ((0 : Nat) : Int) ((k.toNat &&& 4) ≠ 0) rfl (cmpN_ne (k.toNat &&& 4) 0) (by kernel_rfl) (by kernel_rfl) ?_ ?_))))
          · intro h43
            replace h43 : (k.toNat &&& 4) ≠ 0 := by omega
            refine L_nil (thenQ_normal (W_true (by kernel_rfl) (W_region (L_mv (L_sadd acc ([95] : List UInt8) (by first | omega | (simp only [List.length_append, List.length_cons, List.length_nil]; omega)) (by kernel_rfl) (by kernel_rfl) (L_as (L_nil ?_)))))))
            refine thenQ_normal ⟨(acc ++ ([95] : List UInt8)), hds, by kernel_rfl, by kernel_rfl, by kernel_rfl, by kernel_rfl, by kernel_rfl, by kernel_rfl, by kernel_rfl, p_how, hb, hs, ?_⟩
            first | (rw [if_pos (by assumption)]; done) | (rw [if_neg (by omega)]; simp; done)
          · intro h44
            replace h44 : (k.toNat &&& 4) = 0 := by omega
            refine L_nil (thenQ_normal (W_false (by kernel_rfl) (W_skip ?_)))
            refine thenQ_normal ⟨acc, hds, by kernel_rfl, by kernel_rfl, by kernel_rfl, by kernel_rfl, by kernel_rfl, by kernel_rfl, by kernel_rfl, p_how, hb, hs, ?_⟩
            first | (rw [if_pos (by assumption)]; done) | (rw [if_neg (by omega)]; simp; done)
        · rintro s45 w46 ⟨a1, hds, f_0, f_1, f_4, f_6, f_7, f_8, f_5, p_how, hb, hs, j3⟩
          refine W_set 0 _ f_0 (W_set 1 _ f_1 (W_set 4 _ f_4 (W_set 6 _ f_6 (W_set 7 _ f_7 (W_set 8 _ f_8 (W_set 5 _ f_5 ?_))))))
          clear f_0 f_1 f_4 f_6 f_7 f_8 f_5
          have hl1 : a1.length ≤ acc.length + 1 := by rw [j3]; split <;> simp
          refine W_cut (fun s0 w0 => ∃ (a2 : List UInt8), (s0.ds = []) ∧ (s0.f 0 = (S name)) ∧ (s0.f 1 = v_how) ∧ (s0.f 4 = (S ([] : List UInt8))) ∧ (s0.f 6 = (.int .i64 ((i : Nat) : Int))) ∧ (s0.f 7 = (.int .u8 k)) ∧ (s0.f 8 = (.int .u8 c1)) ∧ (s0.f 5 = (S a2)) ∧ (Rd w0 encU8 v_how how) ∧ (Below w.heap.size w w0) ∧ (w.heap.size ≤ w0.heap.size) ∧ (a2 = a1 ++ (if k.toNat &&& 8 ≠ 0 then [45, 194, 160] else []))) ?_ ?_
          · refine W_seq (W_region (L_mv (L_and8 k k.toNat 8 (by omega) (by omega) (by kernel_rfl) (by kernel_rfl) (L_cmp .u8 (((k.toNat &&& 8) : Nat) : Int) ((0 : Nat) : Int) ((k.toNat &&& 8) ≠ 0) rfl (cmpN_ne (k.toNat &&& 8) 0) (by kernel_rfl) (by kernel_rfl) ?_ ?_))))
            · intro h47
              replace h47 : (k.toNat &&& 8) ≠ 0 := by omega
              refine L_nil (thenQ_normal (W_true (by kernel_rfl) (W_region (L_mv (L_sadd a1 ([45, 194, 160] : List UInt8) (by first | omega | (simp only [List.length_append, List.length_cons, List.length_nil]; omega)) (by kernel_rfl) (by kernel_rfl) (L_as (L_nil ?_)))))))
              refine thenQ_normal ⟨(a1 ++ ([45, 194, 160] : List UInt8)), hds, by kernel_rfl, by kernel_rfl, by kernel_rfl, by kernel_rfl, by kernel_rfl, by kernel_rfl, by kernel_rfl, p_how, hb, hs, ?_⟩
              first | (rw [if_pos (by assumption)]; done) | (rw [if_neg (by omega)]; simp; done)
            · intro h48
              replace h48 : (k.toNat &&& 8) = 0 := by omega
              refine L_nil (thenQ_normal (W_false (by kernel_rfl) (W_skip ?_)))
              refine thenQ_normal ⟨a1, hds, by kernel_rfl, by kernel_rfl, by kernel_rfl, by kernel_rfl, by kernel_rfl, by kernel_rfl, by kernel_rfl, p_how, hb, hs, ?_⟩
              first | (rw [if_pos (by assumption)]; done) | (rw [if_neg (by omega)]; simp; done)
          · rintro s49 w50 ⟨a2, hds, f_0, f_1, f_4, f_6, f_7, f_8, f_5, p_how, hb, hs, j4⟩
            refine W_set 0 _ f_0 (W_set 1 _ f_1 (W_set 4 _ f_4 (W_set 6 _ f_6 (W_set 7 _ f_7 (W_set 8 _ f_8 (W_set 5 _ f_5 ?_))))))
            clear f_0 f_1 f_4 f_6 f_7 f_8 f_5
            have hl2 : a2.length ≤ a1.length + 3 := by rw [j4]; split <;> simp
            refine W_cut (fun s0 w0 => ∃ (c2 : Int), (s0.ds = []) ∧ (s0.f 0 = (S name)) ∧ (s0.f 1 = v_how) ∧ (s0.f 4 = (S ([] : List UInt8))) ∧ (s0.f 5 = (S a2)) ∧ (s0.f 6 = (.int .i64 ((i : Nat) : Int))) ∧ (s0.f 8 = (.int .u8 c2)) ∧ (Rd w0 encU8 v_how how) ∧ (Below w.heap.size w w0) ∧ (w.heap.size ≤ w0.heap.size) ∧ (c2 = lastF c1 k.toNat)) ?_ ?_
            · refine W_seq (W_region (L_mv (L_and8 k k.toNat 16 (by omega) (by omega) (by kernel_rfl) (by kernel_rfl) (L_cmp .u8 (((k.toNat &&& 16) : Nat) : Int) ((0 : Nat) : Int) ((k.toNat &&& 16) ≠ 0) rfl (cmpN_ne (k.toNat &&& 16) 0) (by kernel_rfl) (by kernel_rfl) ?_ ?_))))
              · intro h51
                replace h51 : (k.toNat &&& 16) ≠ 0 := by omega
                refine L_mv (L_want (by kernel_rfl) (L_mv (L_want (by kernel_rfl) (L_cmp .u8 c1 95 (c1 = 95) rfl (cmp_eq c1 95) (by kernel_rfl) (by kernel_rfl) ?_ ?_))))
                · intro h52
                  replace h52 : c1 = 95 := by omega
                  refine L_pickT (by kernel_rfl) (L_nil (thenQ_normal (W_true (by kernel_rfl) (W_region (L_as (L_nil ?_))))))
                  refine thenQ_normal ⟨32, hds, by kernel_rfl, by kernel_rfl, by kernel_rfl, by kernel_rfl, by kernel_rfl, by kernel_rfl, p_how, hb, hs, ?_⟩
                  unfold lastF; split <;> omega
                · intro h53
                  replace h53 : c1 ≠ 95 := by omega
                  refine L_pickT (by kernel_rfl) (L_nil (thenQ_normal (W_false (by kernel_rfl) (W_skip ?_))))
                  refine thenQ_normal ⟨c1, hds, by kernel_rfl, by kernel_rfl, by kernel_rfl, by kernel_rfl, by kernel_rfl, by kernel_rfl, p_how, hb, hs, ?_⟩
                  unfold lastF; split <;> omega
              · intro h54
                replace h54 : (k.toNat &&& 16) = 0 := by omega
                refine L_mv (L_skip (by kernel_rfl) (L_skip (by kernel_rfl) (L_pickF (by kernel_rfl) (L_nil (thenQ_normal (W_false (by kernel_rfl) (W_skip ?_)))))))
                refine thenQ_normal ⟨c1, hds, by kernel_rfl, by kernel_rfl, by kernel_rfl, by kernel_rfl, by kernel_rfl, by kernel_rfl, p_how, hb, hs, ?_⟩
                unfold lastF; split <;> omega
            · rintro s55 w56 ⟨c2, hds, f_0, f_1, f_4, f_5, f_6, f_8, p_how, hb, hs, j5⟩
              refine W_set 0 _ f_0 (W_set 1 _ f_1 (W_set 4 _ f_4 (W_set 5 _ f_5 (W_set 6 _ f_6 (W_set 8 _ f_8 ?_)))))
              clear f_0 f_1 f_4 f_5 f_6 f_8
              have hbl := bytesI1_len c2
              refine W_region (L_mv (L_mv (L_new (fun b => .slice (some ⟨b, 0, none⟩) 1 1) (.cells [(.int .u8 c2)].toArray 5 (0, 0)) (by kernel_rfl) (by kernel_rfl) ?_)))
              intro b57 w58 hN59
              have g_b57 : w.heap.size ≤ b57 := by rw [hN59.num]; exact hs
              replace hb := hb.trans (hN59.below.mono hs)
              replace hs := Nat.le_trans hs (hN59.below.size)
              replace p_how := p_how.below hN59.below
              have r_b57 : Row w58 w.heap.size 5 1 encU8 (.slice (some ⟨b57, 0, none⟩) 1 1) ([c2] : List (Int)) := Row.made ([c2] : List (Int)) hN59 g_b57 rfl rfl (by first | decide | (simp; done))
              refine L_bytesStr (.slice (some ⟨b57, 0, none⟩) 1 1) ([c2] : List (Int)) Try.underlying56 Try.underlying5 Try.underlying9 (by kernel_rfl) r_b57.rd (L_sadd a2 (bytesI ([c2] : List (Int))) (by first | omega | (simp only [List.length_append, List.length_cons, List.length_nil]; omega)) (by kernel_rfl) (by kernel_rfl) (L_as (L_nil (blkQ_normal (thenQ_normal (W_region (L_mv (L_addN i 1 (by omega) (by kernel_rfl) (by kernel_rfl) (L_as (L_nil ?_))))))))))
              refine thenQ_normal ⟨_, ?_, (i + 1), (a2 ++ (bytesI ([c2] : List (Int)))), rfl, hds, by kernel_rfl, by kernel_rfl, by kernel_rfl, by kernel_rfl, by kernel_rfl, p_how, hb, hs, ?_, ?_⟩
              · omega
              · omega
              · rw [j5, j4, j3, i3, spoiltTo_succ (k := k.toNat) hcx jk]; simp [spS, j2, hch]
  · intro h60
    replace h60 : (name).length ≤ i := by omega
    refine L_nil (thenQ_normal (W_false (by kernel_rfl) (W_exit (thenQ_exit (thenQ_exit (blkQ_exit (thenQ_normal (W_seq (W_region (L_mv (L_as (L_nil (thenQ_normal (W_ret ?_))))))))))))))
    refine end_ret [.tmp 4] [(S acc)] rfl hds ⟨by kernel_rfl, trivial⟩ ?_
    have e0 : acc = spoiltF name how := by rw [i3]; unfold spoiltF spoiltTo; congr 2; omega
    exact ⟨congrArg S e0, hb⟩

set_option maxHeartbeats 4000000 in
set_option maxRecDepth 100000 in
theorem c_furrowlaw05_WordsBack (v_l : Value) (l : List (Int)) (v_how : Value) (how : List (Int)) (w : World) (p_l : Rd w encU8 v_l l) (p_how : Rd w encU8 v_how how) (hl : l.length ≤ 1048576) (hr : ∀ x ∈ l, 0 ≤ x ∧ x ≤ 255) (hh : ∀ x ∈ how, 0 ≤ x ∧ x ≤ 255) :
    Calls Try.prog 12 #[v_l, v_how] w (Ret fun v w' => v = (.bool true) ∧ Below w.heap.size w w') := by
  refine enter (args := [v_l, v_how]) Try.func12 rfl (by kernel_rfl : _ = 139) (by kernel_rfl) ?_
  have hb := Below.refl w.heap.size w
  have hs : w.heap.size ≤ w.heap.size := Nat.le_refl _
  have in_p_l := p_l
  have in_p_how := p_how
  have hwl := write_len l
  refine W_seq (W_region (L_as (L_nil (thenQ_normal (W_seq (W_seq (W_region (L_as (L_nil (thenQ_normal (W_block ?_)))))))))))
  refine W_loop (fun m s0 w0 => ∃ (c : Int), (m = (24 - c).toNat) ∧ (s0.ds = []) ∧ (s0.f 0 = v_l) ∧ (s0.f 1 = v_how) ∧ (s0.f 5 = (.int .u8 c)) ∧ (Rd w0 encU8 v_l l) ∧ (Rd w0 encU8 v_how how) ∧ (Below w.heap.size w w0) ∧ (w.heap.size ≤ w0.heap.size) ∧ (1 ≤ c) ∧ (c ≤ 24)) _ ⟨1, rfl, by kernel_rfl, by kernel_rfl, by kernel_rfl, by kernel_rfl, p_l, p_how, hb, hs, by omega, by omega⟩ ?_
  rintro m1 s2 w3 ⟨c, hm, hds, f_0, f_1, f_5, p_l, p_how, hb, hs, i1, i2⟩
  refine W_set 0 _ f_0 (W_set 1 _ f_1 (W_set 5 _ f_5 ?_))
  clear f_0 f_1 f_5
  have hbk := fun (h : c ≤ 23) => class_back (c := c) i1 h how
  have hl1 := shortS_len c
  have hl2 := longS_len c
  have hl3 := spoiltF_len (shortS c) how
  have hl4 := spoiltF_len (longS c) how
  refine W_seq (W_seq (W_region (L_mv (L_cmp .u8 c 23 (c ≤ 23) rfl (cmp_le c 23) (by kernel_rfl) (by kernel_rfl) ?_ ?_))))
  · intro h4
    replace h4 : c ≤ 23 := by omega
    refine L_nil (thenQ_normal (W_true (by kernel_rfl) (W_skip (thenQ_normal (W_seq (W_block (W_seq (W_region (L_mv (L_call 27 [(.int .u8 c)] (by kernel_rfl) (by kernel_rfl) (c_words_Short c _ (by omega)) ?_))))))))))
    rintro _ w5 ⟨rfl, hB6⟩
    replace hb := hb.trans (hB6.mono hs)
    replace hs := Nat.le_trans hs (hB6.size)
    replace p_l := p_l.below hB6
    replace p_how := p_how.below hB6
    refine L_mv (L_run (S (shortS c)) (by kernel_rfl) (by kernel_rfl) (L_run (.int .i64 (toldE c)) (by kernel_rfl) (by kernel_rfl) (L_as (L_as (L_nil (thenQ_normal (W_seq (W_region (L_mv (L_call 28 [(.int .u8 c)] (by kernel_rfl) (by kernel_rfl) (c_words_Long c _ (by omega)) ?_))))))))))
    rintro _ w8 ⟨rfl, hB9⟩
    replace hb := hb.trans (hB9.mono hs)
    replace hs := Nat.le_trans hs (hB9.size)
    replace p_l := p_l.below hB9
    replace p_how := p_how.below hB9
    refine L_mv (L_run (S (longS c)) (by kernel_rfl) (by kernel_rfl) (L_run (.int .i64 (toldE c)) (by kernel_rfl) (by kernel_rfl) (L_as (L_as (L_nil (thenQ_normal (W_seq (W_region (L_mv (L_mv (L_call 38 [(S (shortS c)), v_how] (by kernel_rfl) (by kernel_rfl) (c_furrowlaw05_spoilt (shortS c) v_how how _ p_how (by omega) (by first | exact hr | exact hh)) ?_)))))))))))
    rintro _ w11 ⟨rfl, hB12⟩
    replace hb := hb.trans (hB12.mono hs)
    replace hs := Nat.le_trans hs (hB12.size)
    replace p_l := p_l.below hB12
    replace p_how := p_how.below hB12
    refine L_call 21 [(S (spoiltF (shortS c) how))] (by kernel_rfl) (by kernel_rfl) (c_words_Class (spoiltF (shortS c) how) _ (by omega)) ?_
    rintro _ w14 ⟨rfl, hB15⟩
    replace hb := hb.trans (hB15.mono hs)
    replace hs := Nat.le_trans hs (hB15.size)
    replace p_l := p_l.below hB15
    replace p_how := p_how.below hB15
    refine L_mv (L_run (.int .u8 ((classF (spoiltF (shortS c) how)).1)) (by kernel_rfl) (by kernel_rfl) (L_run (.int .i64 ((classF (spoiltF (shortS c) how)).2)) (by kernel_rfl) (by kernel_rfl) (L_as (L_as (L_nil (thenQ_normal (W_seq (W_region (L_mv (L_mv (L_call 38 [(S (longS c)), v_how] (by kernel_rfl) (by kernel_rfl) (c_furrowlaw05_spoilt (longS c) v_how how _ p_how (by omega) (by first | exact hr | exact hh)) ?_)))))))))))
    rintro _ w17 ⟨rfl, hB18⟩
    replace hb := hb.trans (hB18.mono hs)
    replace hs := Nat.le_trans hs (hB18.size)
    replace p_l := p_l.below hB18
    replace p_how := p_how.below hB18
    refine L_call 21 [(S (spoiltF (longS c) how))] (by kernel_rfl) (by kernel_rfl) (c_words_Class (spoiltF (longS c) how) _ (by omega)) ?_
    rintro _ w20 ⟨rfl, hB21⟩
    replace hb := hb.trans (hB21.mono hs)
    replace hs := Nat.le_trans hs (hB21.size)
    replace p_l := p_l.below hB21
    replace p_how := p_how.below hB21
    refine L_mv (L_run (.int .u8 ((classF (spoiltF (longS c) how)).1)) (by kernel_rfl) (by kernel_rfl) (L_run (.int .i64 ((classF (spoiltF (longS c) how)).2)) (by kernel_rfl) (by kernel_rfl) (L_as (L_as (L_nil (thenQ_normal (W_seq (W_region (L_mv (L_cmp .i64 (toldE c) 0 (toldE c ≠ 0) rfl (cmp_ne (toldE c) 0) (by kernel_rfl) (by kernel_rfl) ?_ ?_))))))))))
    · intro h23
      replace h23 : toldE c ≠ 0 := by omega
      exfalso; exact h23 (hbk (by omega)).1
    · intro h24
      replace h24 : toldE c = 0 := by omega
      refine L_mv (L_want (by kernel_rfl) (L_mv (L_want (by kernel_rfl) (L_cmp .i64 (toldE c) 0 (toldE c ≠ 0) rfl (cmp_ne (toldE c) 0) (by kernel_rfl) (by kernel_rfl) ?_ ?_))))
      · intro h25
        replace h25 : toldE c ≠ 0 := by omega
        exfalso; exact h25 (hbk (by omega)).1
      · intro h26
        replace h26 : toldE c = 0 := by omega
        refine L_pickF (by kernel_rfl) (L_mv (L_want (by kernel_rfl) (L_mv (L_want (by kernel_rfl) (L_cmp .i64 ((classF (spoiltF (shortS c) how)).2) 0 ((classF (spoiltF (shortS c) how)).2 ≠ 0) rfl (cmp_ne ((classF (spoiltF (shortS c) how)).2) 0) (by kernel_rfl) (by kernel_rfl) ?_ ?_)))))
        · intro h27
          replace h27 : (classF (spoiltF (shortS c) how)).2 ≠ 0 := by omega
          exfalso; exact h27 (by rw [(hbk (by omega)).2.1])
        · intro h28
          replace h28 : (classF (spoiltF (shortS c) how)).2 = 0 := by omega
          refine L_pickF (by kernel_rfl) (L_mv (L_want (by kernel_rfl) (L_mv (L_want (by kernel_rfl) (L_cmp .i64 ((classF (spoiltF (longS c) how)).2) 0 ((classF (spoiltF (longS c) how)).2 ≠ 0) rfl (cmp_ne ((classF (spoiltF (longS c) how)).2) 0) (by kernel_rfl) (by kernel_rfl) ?_ ?_)))))
          · intro h29
            replace h29 : (classF (spoiltF (longS c) how)).2 ≠ 0 := by omega
            exfalso; exact h29 (by rw [(hbk (by omega)).2.2])
          · intro h30
            replace h30 : (classF (spoiltF (longS c) how)).2 = 0 := by omega
            refine L_pickF (by kernel_rfl) (L_mv (L_want (by kernel_rfl) (L_mv (L_want (by kernel_rfl) (L_mv (L_want (by kernel_rfl) (L_cmp .u8 ((classF (spoiltF (shortS c) how)).1) c ((classF (spoiltF (shortS c) how)).1 ≠ c) rfl (cmp_ne ((classF (spoiltF (shortS c) how)).1) c) (by kernel_rfl) (by kernel_rfl) ?_ ?_)))))))
            · intro h31
              replace h31 : (classF (spoiltF (shortS c) how)).1 ≠ c := by omega
              exfalso; exact h31 (by rw [(hbk (by omega)).2.1])
            · intro h32
              replace h32 : (classF (spoiltF (shortS c) how)).1 = c := by omega
              refine L_pickF (by kernel_rfl) (L_mv (L_want (by kernel_rfl) (L_mv (L_want (by kernel_rfl) (L_mv (L_want (by kernel_rfl) (L_cmp .u8 ((classF (spoiltF (longS c) how)).1) c ((classF (spoiltF (longS c) how)).1 ≠ c) rfl (cmp_ne ((classF (spoiltF (longS c) how)).1) c) (by kernel_rfl) (by kernel_rfl) ?_ ?_)))))))
              · intro h33
                replace h33 : (classF (spoiltF (longS c) how)).1 ≠ c := by omega
                exfalso; exact h33 (by rw [(hbk (by omega)).2.2])
              · intro h34
                replace h34 : (classF (spoiltF (longS c) how)).1 = c := by omega
                refine L_pickF (by kernel_rfl) (L_nil (thenQ_normal (W_false (by kernel_rfl) (W_skip (blkQ_normal (thenQ_normal (W_region (L_mv (L_arith c 1 (c + 1) rfl (by kernel_rfl) (by kernel_rfl) (wrap_u8 _ (by simp only [arithZ]; omega) (by simp only [arithZ]; omega)) (L_as (L_nil ?_)))))))))))
                refine thenQ_normal ⟨_, ?_, (c + 1), rfl, hds, by kernel_rfl, by kernel_rfl, by kernel_rfl, p_l, p_how, hb, hs, ?_, ?_⟩
                · omega
                · omega
                · omega
  · intro h35
    replace h35 : 23 < c := by omega
    refine L_nil (thenQ_normal (W_false (by kernel_rfl) (W_exit (thenQ_exit (thenQ_exit (blkQ_exit (thenQ_normal (W_seq (W_seq (W_region (L_as (L_nil (thenQ_normal (W_block ?_))))))))))))))
    refine W_loop (fun m s0 w0 => ∃ (c : Int), (m = (3 - c).toNat) ∧ (s0.ds = []) ∧ (s0.f 0 = v_l) ∧ (s0.f 1 = v_how) ∧ (s0.f 14 = (.int .u8 c)) ∧ (Rd w0 encU8 v_l l) ∧ (Rd w0 encU8 v_how how) ∧ (Below w.heap.size w w0) ∧ (w.heap.size ≤ w0.heap.size) ∧ (0 ≤ c) ∧ (c ≤ 3)) _ ⟨0, rfl, hds, by kernel_rfl, by kernel_rfl, by kernel_rfl, p_l, p_how, hb, hs, by omega, by omega⟩ ?_
    rintro m36 s37 w38 ⟨c, hm, hds, f_0, f_1, f_14, p_l, p_how, hb, hs, i1, i2⟩
    refine W_set 0 _ f_0 (W_set 1 _ f_1 (W_set 14 _ f_14 ?_))
    clear f_0 f_1 f_14
    have hbk := fun (h : c ≤ 2) => side_back (c := c) i1 h how
    have hl1 := letterS_len c
    have hl3 := spoiltF_len (letterS c) how
    refine W_seq (W_seq (W_region (L_mv (L_cmp .u8 c 2 (c ≤ 2) rfl (cmp_le c 2) (by kernel_rfl) (by kernel_rfl) ?_ ?_))))
    · intro h39
      replace h39 : c ≤ 2 := by omega
      refine L_nil (thenQ_normal (W_true (by kernel_rfl) (W_skip (thenQ_normal (W_seq (W_block (W_seq (W_region (L_mv (L_call 29 [(.int .u8 c)] (by kernel_rfl) (by kernel_rfl) (c_words_Letter c _ ) ?_))))))))))
      rintro _ w40 ⟨rfl, hB41⟩
      replace hb := hb.trans (hB41.mono hs)
      replace hs := Nat.le_trans hs (hB41.size)
      replace p_l := p_l.below hB41
      replace p_how := p_how.below hB41
      have := letterS_len c
      refine L_mv (L_run (S (letterS c)) (by kernel_rfl) (by kernel_rfl) (L_run (.int .i64 (letterE c)) (by kernel_rfl) (by kernel_rfl) (L_as (L_as (L_nil (thenQ_normal (W_seq (W_region (L_mv (L_mv (L_call 38 [(S (letterS c)), v_how] (by kernel_rfl) (by kernel_rfl) (c_furrowlaw05_spoilt (letterS c) v_how how _ p_how (by omega) (by first | exact hr | exact hh)) ?_)))))))))))
      rintro _ w43 ⟨rfl, hB44⟩
      replace hb := hb.trans (hB44.mono hs)
      replace hs := Nat.le_trans hs (hB44.size)
      replace p_l := p_l.below hB44
      replace p_how := p_how.below hB44
      refine L_call 23 [(S (spoiltF (letterS c) how))] (by kernel_rfl) (by kernel_rfl) (c_words_Side (spoiltF (letterS c) how) _ (by omega)) ?_
      rintro _ w46 ⟨rfl, hB47⟩
      replace hb := hb.trans (hB47.mono hs)
      replace hs := Nat.le_trans hs (hB47.size)
      replace p_l := p_l.below hB47
      replace p_how := p_how.below hB47
      refine L_mv (L_run (.int .u8 ((sideF (spoiltF (letterS c) how)).1)) (by kernel_rfl) (by kernel_rfl) (L_run (.int .i64 ((sideF (spoiltF (letterS c) how)).2)) (by kernel_rfl) (by kernel_rfl) (L_as (L_as (L_nil (thenQ_normal (W_seq (W_region (L_mv (L_cmp .i64 (letterE c) 0 (letterE c ≠ 0) rfl (cmp_ne (letterE c) 0) (by kernel_rfl) (by kernel_rfl) ?_ ?_))))))))))
      · intro h49
        replace h49 : letterE c ≠ 0 := by omega
        exfalso; exact h49 (hbk (by omega)).1
      · intro h50
        replace h50 : letterE c = 0 := by omega
        refine L_mv (L_want (by kernel_rfl) (L_mv (L_want (by kernel_rfl) (L_cmp .i64 ((sideF (spoiltF (letterS c) how)).2) 0 ((sideF (spoiltF (letterS c) how)).2 ≠ 0) rfl (cmp_ne ((sideF (spoiltF (letterS c) how)).2) 0) (by kernel_rfl) (by kernel_rfl) ?_ ?_))))
        · intro h51
          replace h51 : (sideF (spoiltF (letterS c) how)).2 ≠ 0 := by omega
          exfalso; exact h51 (by rw [(hbk (by omega)).2])
        · intro h52
          replace h52 : (sideF (spoiltF (letterS c) how)).2 = 0 := by omega
          refine L_pickF (by kernel_rfl) (L_mv (L_want (by kernel_rfl) (L_mv (L_want (by kernel_rfl) (L_mv (L_want (by kernel_rfl) (L_cmp .u8 ((sideF (spoiltF (letterS c) how)).1) c ((sideF (spoiltF (letterS c) how)).1 ≠ c) rfl (cmp_ne ((sideF (spoiltF (letterS c) how)).1) c) (by kernel_rfl) (by kernel_rfl) ?_ ?_)))))))
          · intro h53
            replace h53 : (sideF (spoiltF (letterS c) how)).1 ≠ c := by omega
            exfalso; exact h53 (by rw [(hbk (by omega)).2])
          · intro h54
            replace h54 : (sideF (spoiltF (letterS c) how)).1 = c := by omega
            refine L_pickF (by kernel_rfl) (L_nil (thenQ_normal (W_false (by kernel_rfl) (W_skip (blkQ_normal (thenQ_normal (W_region (L_mv (L_arith c 1 (c + 1) rfl (by kernel_rfl) (by kernel_rfl) (wrap_u8 _ (by simp only [arithZ]; omega) (by simp only [arithZ]; omega)) (L_as (L_nil ?_)))))))))))
            refine thenQ_normal ⟨_, ?_, (c + 1), rfl, hds, by kernel_rfl, by kernel_rfl, by kernel_rfl, p_l, p_how, hb, hs, ?_, ?_⟩
            · omega
            · omega
            · omega
    · intro h55
      replace h55 : 2 < c := by omega
      refine L_nil (thenQ_normal (W_false (by kernel_rfl) (W_exit (thenQ_exit (thenQ_exit (blkQ_exit (thenQ_normal (W_seq (W_region (L_mv (L_call 36 [v_l] (by kernel_rfl) (by kernel_rfl) (c_words_Write v_l l _ p_l (by omega) (by first | exact hr | exact hh)) ?_)))))))))))
      rintro _ w56 ⟨rfl, hB57⟩
      replace hb := hb.trans (hB57.mono hs)
      replace hs := Nat.le_trans hs (hB57.size)
      replace p_l := p_l.below hB57
      replace p_how := p_how.below hB57
      refine L_mv (L_run (S ((writeF l).1)) (by kernel_rfl) (by kernel_rfl) (L_run (.int .i64 ((writeF l).2)) (by kernel_rfl) (by kernel_rfl) (L_as (L_as (L_nil (thenQ_normal (W_seq (W_seq (W_region (L_mv (L_cmp .i64 ((writeF l).2) 0 ((writeF l).2 ≠ 0) rfl (cmp_ne ((writeF l).2) 0) (by kernel_rfl) (by kernel_rfl) ?_ ?_)))))))))))
      · intro h59
        replace h59 : (writeF l).2 ≠ 0 := by omega
        refine L_nil (thenQ_normal (W_true (by kernel_rfl) (W_seq (W_region (L_mv (L_cmp .i64 ((writeF l).2) 2 ((writeF l).2 = 2) rfl (cmp_eq ((writeF l).2) 2) (by kernel_rfl) (by kernel_rfl) ?_ ?_))))))
        · intro h60
          replace h60 : (writeF l).2 = 2 := by omega
          refine L_mv (L_want (by kernel_rfl) (L_mv (L_want (by kernel_rfl) (L_seq ((writeF l).1) ([] : List UInt8) rfl (by kernel_rfl) (by kernel_rfl) ?_ ?_))))
          · intro h61
            refine L_pickT (by kernel_rfl) (L_mv (L_want (by kernel_rfl) (L_call 15 [] (by kernel_rfl) (by kernel_rfl) (c_furrowlaw05_awake  _ ) ?_)))
            rintro _ w62 ⟨rfl, hB63⟩
            replace hb := hb.trans (hB63.mono hs)
            replace hs := Nat.le_trans hs (hB63.size)
            replace p_l := p_l.below hB63
            replace p_how := p_how.below hB63
            refine L_pickT (by kernel_rfl) (L_as (L_nil (thenQ_normal (W_ret (thenQ_ret ?_)))))
            refine end_ret [.tmp 4] [(.bool true)] rfl hds ⟨by kernel_rfl, trivial⟩ ?_
            have e0 : true = true := by first | rfl | (exfalso; omega) | (exfalso; simp_all; done)
            exact ⟨congrArg Value.bool e0, hb⟩
          · intro h65
            exfalso; exact h65 (write_bad (by assumption)).2
        · intro h66
          replace h66 : (writeF l).2 ≠ 2 := by omega
          exfalso; exact h66 (write_bad (by assumption)).1
      · intro h67
        replace h67 : (writeF l).2 = 0 := by omega
        refine L_nil (thenQ_normal (W_false (by kernel_rfl) (W_skip (thenQ_normal (W_seq (W_region (L_mv (L_call 33 [(S ((writeF l).1))] (by kernel_rfl) (by kernel_rfl) (c_words_Classes ((writeF l).1) _ (by omega)) ?_))))))))
        rintro _ w69 ⟨q68, rfl, r_q68, hB70⟩
        replace r_q68 := r_q68.base hs
        replace hb := hb.trans (hB70.mono hs)
        replace hs := Nat.le_trans hs (hB70.size)
        replace p_l := p_l.below hB70
        replace p_how := p_how.below hB70
        refine L_mv (L_run q68 (by kernel_rfl) (by kernel_rfl) (L_run (.int .i64 ((classesF ((writeF l).1)).2.1)) (by kernel_rfl) (by kernel_rfl) (L_run (.int .i64 ((classesF ((writeF l).1)).2.2)) (by kernel_rfl) (by kernel_rfl) (L_as (L_as (L_as (L_nil (thenQ_normal (W_seq (W_region (L_mv (L_cmp .i64 ((classesF ((writeF l).1)).2.2) 0 ((classesF ((writeF l).1)).2.2 = 0) rfl (cmp_eq ((classesF ((writeF l).1)).2.2) 0) (by kernel_rfl) (by kernel_rfl) ?_ ?_))))))))))))
        · intro h72
          replace h72 : (classesF ((writeF l).1)).2.2 = 0 := by omega
          refine L_mv (L_want (by kernel_rfl) (L_mv (L_want (by kernel_rfl) (L_cmp .i64 ((classesF ((writeF l).1)).2.1) 0 ((classesF ((writeF l).1)).2.1 = 0) rfl (cmp_eq ((classesF ((writeF l).1)).2.1) 0) (by kernel_rfl) (by kernel_rfl) ?_ ?_))))
          · intro h73
            replace h73 : (classesF ((writeF l).1)).2.1 = 0 := by omega
            refine L_pickT (by kernel_rfl) (L_mv (L_want (by kernel_rfl) (L_mv (L_want (by kernel_rfl) (L_mv (L_want (by kernel_rfl) (L_call 35 [q68, v_l] (by kernel_rfl) (by kernel_rfl) (c_furrowlaw05_same q68 ((classesF ((writeF l).1)).1) v_l l _ r_q68.rd p_l (by rw [write_back (by assumption)]; dsimp only; omega)) ?_)))))))
            rintro _ w74 ⟨rfl, hB75⟩
            replace hb := hb.trans (hB75.mono hs)
            replace hs := Nat.le_trans hs (hB75.size)
            replace p_l := p_l.below hB75
            replace p_how := p_how.below hB75
            replace r_q68 := r_q68.below hB75
            refine put_split (decide (((classesF ((writeF l).1)).1) = l)) ?_ ?_
            · intro h77
              refine L_pickT (by kernel_rfl) (L_mv (L_want (by kernel_rfl) (L_call 15 [] (by kernel_rfl) (by kernel_rfl) (c_furrowlaw05_awake  _ ) ?_)))
              rintro _ w78 ⟨rfl, hB79⟩
              replace hb := hb.trans (hB79.mono hs)
              replace hs := Nat.le_trans hs (hB79.size)
              replace p_l := p_l.below hB79
              replace p_how := p_how.below hB79
              replace r_q68 := r_q68.below hB79
              refine L_pickT (by kernel_rfl) (L_as (L_nil (thenQ_normal (W_ret ?_))))
              refine end_ret [.tmp 4] [(.bool true)] rfl hds ⟨by kernel_rfl, trivial⟩ ?_
              have e0 : true = true := by first | rfl | (exfalso; omega) | (exfalso; simp_all; done)
              exact ⟨congrArg Value.bool e0, hb⟩
            · intro h81
              exfalso; rw [write_back (by assumption)] at h81; simp at h81
          · intro h82
            replace h82 : (classesF ((writeF l).1)).2.1 ≠ 0 := by omega
            exfalso; exact h82 (by rw [write_back (by assumption)])
        · intro h83
          replace h83 : (classesF ((writeF l).1)).2.2 ≠ 0 := by omega
          exfalso; exact h83 (by rw [write_back (by assumption)])

end Go.Proofs.Ytbknjmjflfkhkaa
