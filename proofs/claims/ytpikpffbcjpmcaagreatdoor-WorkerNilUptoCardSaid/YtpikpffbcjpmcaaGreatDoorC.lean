/- Short rules for long walks. No program is named here. -/
import Derived.Test.YtpikpffbcjpmcaaGreatDoorS
namespace Go.Proofs.YtpikpffbcjpmcaaGreatDoor.SL
open Go Go.RowKit
section
variable {z w : World} {L L' : List HProp}
theorem Fit.m1 {A0 A1 : HProp} (h : Fit z (sepL (A0 :: A1 :: L)) w) : Fit z (sepL (A1 :: A0 :: L)) w := h.pick 1
theorem Fit.m2 {A0 A1 A2 : HProp} (h : Fit z (sepL (A0 :: A1 :: A2 :: L)) w) : Fit z (sepL (A2 :: A0 :: A1 :: L)) w := h.pick 2
theorem Fit.m3 {A0 A1 A2 A3 : HProp} (h : Fit z (sepL (A0 :: A1 :: A2 :: A3 :: L)) w) : Fit z (sepL (A3 :: A0 :: A1 :: A2 :: L)) w := h.pick 3
theorem Fit.m4 {A0 A1 A2 A3 A4 : HProp} (h : Fit z (sepL (A0 :: A1 :: A2 :: A3 :: A4 :: L)) w) : Fit z (sepL (A4 :: A0 :: A1 :: A2 :: A3 :: L)) w := h.pick 4
theorem Fit.m5 {A0 A1 A2 A3 A4 A5 : HProp} (h : Fit z (sepL (A0 :: A1 :: A2 :: A3 :: A4 :: A5 :: L)) w) : Fit z (sepL (A5 :: A0 :: A1 :: A2 :: A3 :: A4 :: L)) w := h.pick 5
theorem Fit.m6 {A0 A1 A2 A3 A4 A5 A6 : HProp} (h : Fit z (sepL (A0 :: A1 :: A2 :: A3 :: A4 :: A5 :: A6 :: L)) w) : Fit z (sepL (A6 :: A0 :: A1 :: A2 :: A3 :: A4 :: A5 :: L)) w := h.pick 6
theorem Fit.m7 {A0 A1 A2 A3 A4 A5 A6 A7 : HProp} (h : Fit z (sepL (A0 :: A1 :: A2 :: A3 :: A4 :: A5 :: A6 :: A7 :: L)) w) : Fit z (sepL (A7 :: A0 :: A1 :: A2 :: A3 :: A4 :: A5 :: A6 :: L)) w := h.pick 7
theorem Fit.m8 {A0 A1 A2 A3 A4 A5 A6 A7 A8 : HProp} (h : Fit z (sepL (A0 :: A1 :: A2 :: A3 :: A4 :: A5 :: A6 :: A7 :: A8 :: L)) w) : Fit z (sepL (A8 :: A0 :: A1 :: A2 :: A3 :: A4 :: A5 :: A6 :: A7 :: L)) w := h.pick 8
theorem Fit.m9 {A0 A1 A2 A3 A4 A5 A6 A7 A8 A9 : HProp} (h : Fit z (sepL (A0 :: A1 :: A2 :: A3 :: A4 :: A5 :: A6 :: A7 :: A8 :: A9 :: L)) w) : Fit z (sepL (A9 :: A0 :: A1 :: A2 :: A3 :: A4 :: A5 :: A6 :: A7 :: A8 :: L)) w := h.pick 9
theorem Fit.m10 {A0 A1 A2 A3 A4 A5 A6 A7 A8 A9 A10 : HProp} (h : Fit z (sepL (A0 :: A1 :: A2 :: A3 :: A4 :: A5 :: A6 :: A7 :: A8 :: A9 :: A10 :: L)) w) : Fit z (sepL (A10 :: A0 :: A1 :: A2 :: A3 :: A4 :: A5 :: A6 :: A7 :: A8 :: A9 :: L)) w := h.pick 10
theorem Fit.m11 {A0 A1 A2 A3 A4 A5 A6 A7 A8 A9 A10 A11 : HProp} (h : Fit z (sepL (A0 :: A1 :: A2 :: A3 :: A4 :: A5 :: A6 :: A7 :: A8 :: A9 :: A10 :: A11 :: L)) w) : Fit z (sepL (A11 :: A0 :: A1 :: A2 :: A3 :: A4 :: A5 :: A6 :: A7 :: A8 :: A9 :: A10 :: L)) w := h.pick 11
theorem Fit.m12 {A0 A1 A2 A3 A4 A5 A6 A7 A8 A9 A10 A11 A12 : HProp} (h : Fit z (sepL (A0 :: A1 :: A2 :: A3 :: A4 :: A5 :: A6 :: A7 :: A8 :: A9 :: A10 :: A11 :: A12 :: L)) w) : Fit z (sepL (A12 :: A0 :: A1 :: A2 :: A3 :: A4 :: A5 :: A6 :: A7 :: A8 :: A9 :: A10 :: A11 :: L)) w := h.pick 12
theorem Fit.m13 {A0 A1 A2 A3 A4 A5 A6 A7 A8 A9 A10 A11 A12 A13 : HProp} (h : Fit z (sepL (A0 :: A1 :: A2 :: A3 :: A4 :: A5 :: A6 :: A7 :: A8 :: A9 :: A10 :: A11 :: A12 :: A13 :: L)) w) : Fit z (sepL (A13 :: A0 :: A1 :: A2 :: A3 :: A4 :: A5 :: A6 :: A7 :: A8 :: A9 :: A10 :: A11 :: A12 :: L)) w := h.pick 13
theorem Fit.m14 {A0 A1 A2 A3 A4 A5 A6 A7 A8 A9 A10 A11 A12 A13 A14 : HProp} (h : Fit z (sepL (A0 :: A1 :: A2 :: A3 :: A4 :: A5 :: A6 :: A7 :: A8 :: A9 :: A10 :: A11 :: A12 :: A13 :: A14 :: L)) w) : Fit z (sepL (A14 :: A0 :: A1 :: A2 :: A3 :: A4 :: A5 :: A6 :: A7 :: A8 :: A9 :: A10 :: A11 :: A12 :: A13 :: L)) w := h.pick 14
theorem Fit.m15 {A0 A1 A2 A3 A4 A5 A6 A7 A8 A9 A10 A11 A12 A13 A14 A15 : HProp} (h : Fit z (sepL (A0 :: A1 :: A2 :: A3 :: A4 :: A5 :: A6 :: A7 :: A8 :: A9 :: A10 :: A11 :: A12 :: A13 :: A14 :: A15 :: L)) w) : Fit z (sepL (A15 :: A0 :: A1 :: A2 :: A3 :: A4 :: A5 :: A6 :: A7 :: A8 :: A9 :: A10 :: A11 :: A12 :: A13 :: A14 :: L)) w := h.pick 15
theorem Fit.m16 {A0 A1 A2 A3 A4 A5 A6 A7 A8 A9 A10 A11 A12 A13 A14 A15 A16 : HProp} (h : Fit z (sepL (A0 :: A1 :: A2 :: A3 :: A4 :: A5 :: A6 :: A7 :: A8 :: A9 :: A10 :: A11 :: A12 :: A13 :: A14 :: A15 :: A16 :: L)) w) : Fit z (sepL (A16 :: A0 :: A1 :: A2 :: A3 :: A4 :: A5 :: A6 :: A7 :: A8 :: A9 :: A10 :: A11 :: A12 :: A13 :: A14 :: A15 :: L)) w := h.pick 16
theorem Fit.m17 {A0 A1 A2 A3 A4 A5 A6 A7 A8 A9 A10 A11 A12 A13 A14 A15 A16 A17 : HProp} (h : Fit z (sepL (A0 :: A1 :: A2 :: A3 :: A4 :: A5 :: A6 :: A7 :: A8 :: A9 :: A10 :: A11 :: A12 :: A13 :: A14 :: A15 :: A16 :: A17 :: L)) w) : Fit z (sepL (A17 :: A0 :: A1 :: A2 :: A3 :: A4 :: A5 :: A6 :: A7 :: A8 :: A9 :: A10 :: A11 :: A12 :: A13 :: A14 :: A15 :: A16 :: L)) w := h.pick 17
theorem Fit.m18 {A0 A1 A2 A3 A4 A5 A6 A7 A8 A9 A10 A11 A12 A13 A14 A15 A16 A17 A18 : HProp} (h : Fit z (sepL (A0 :: A1 :: A2 :: A3 :: A4 :: A5 :: A6 :: A7 :: A8 :: A9 :: A10 :: A11 :: A12 :: A13 :: A14 :: A15 :: A16 :: A17 :: A18 :: L)) w) : Fit z (sepL (A18 :: A0 :: A1 :: A2 :: A3 :: A4 :: A5 :: A6 :: A7 :: A8 :: A9 :: A10 :: A11 :: A12 :: A13 :: A14 :: A15 :: A16 :: A17 :: L)) w := h.pick 18
theorem Fit.m19 {A0 A1 A2 A3 A4 A5 A6 A7 A8 A9 A10 A11 A12 A13 A14 A15 A16 A17 A18 A19 : HProp} (h : Fit z (sepL (A0 :: A1 :: A2 :: A3 :: A4 :: A5 :: A6 :: A7 :: A8 :: A9 :: A10 :: A11 :: A12 :: A13 :: A14 :: A15 :: A16 :: A17 :: A18 :: A19 :: L)) w) : Fit z (sepL (A19 :: A0 :: A1 :: A2 :: A3 :: A4 :: A5 :: A6 :: A7 :: A8 :: A9 :: A10 :: A11 :: A12 :: A13 :: A14 :: A15 :: A16 :: A17 :: A18 :: L)) w := h.pick 19
theorem Fit.m20 {A0 A1 A2 A3 A4 A5 A6 A7 A8 A9 A10 A11 A12 A13 A14 A15 A16 A17 A18 A19 A20 : HProp} (h : Fit z (sepL (A0 :: A1 :: A2 :: A3 :: A4 :: A5 :: A6 :: A7 :: A8 :: A9 :: A10 :: A11 :: A12 :: A13 :: A14 :: A15 :: A16 :: A17 :: A18 :: A19 :: A20 :: L)) w) : Fit z (sepL (A20 :: A0 :: A1 :: A2 :: A3 :: A4 :: A5 :: A6 :: A7 :: A8 :: A9 :: A10 :: A11 :: A12 :: A13 :: A14 :: A15 :: A16 :: A17 :: A18 :: A19 :: L)) w := h.pick 20
theorem Fit.m21 {A0 A1 A2 A3 A4 A5 A6 A7 A8 A9 A10 A11 A12 A13 A14 A15 A16 A17 A18 A19 A20 A21 : HProp} (h : Fit z (sepL (A0 :: A1 :: A2 :: A3 :: A4 :: A5 :: A6 :: A7 :: A8 :: A9 :: A10 :: A11 :: A12 :: A13 :: A14 :: A15 :: A16 :: A17 :: A18 :: A19 :: A20 :: A21 :: L)) w) : Fit z (sepL (A21 :: A0 :: A1 :: A2 :: A3 :: A4 :: A5 :: A6 :: A7 :: A8 :: A9 :: A10 :: A11 :: A12 :: A13 :: A14 :: A15 :: A16 :: A17 :: A18 :: A19 :: A20 :: L)) w := h.pick 21
theorem Fit.m22 {A0 A1 A2 A3 A4 A5 A6 A7 A8 A9 A10 A11 A12 A13 A14 A15 A16 A17 A18 A19 A20 A21 A22 : HProp} (h : Fit z (sepL (A0 :: A1 :: A2 :: A3 :: A4 :: A5 :: A6 :: A7 :: A8 :: A9 :: A10 :: A11 :: A12 :: A13 :: A14 :: A15 :: A16 :: A17 :: A18 :: A19 :: A20 :: A21 :: A22 :: L)) w) : Fit z (sepL (A22 :: A0 :: A1 :: A2 :: A3 :: A4 :: A5 :: A6 :: A7 :: A8 :: A9 :: A10 :: A11 :: A12 :: A13 :: A14 :: A15 :: A16 :: A17 :: A18 :: A19 :: A20 :: A21 :: L)) w := h.pick 22
theorem Fit.m23 {A0 A1 A2 A3 A4 A5 A6 A7 A8 A9 A10 A11 A12 A13 A14 A15 A16 A17 A18 A19 A20 A21 A22 A23 : HProp} (h : Fit z (sepL (A0 :: A1 :: A2 :: A3 :: A4 :: A5 :: A6 :: A7 :: A8 :: A9 :: A10 :: A11 :: A12 :: A13 :: A14 :: A15 :: A16 :: A17 :: A18 :: A19 :: A20 :: A21 :: A22 :: A23 :: L)) w) : Fit z (sepL (A23 :: A0 :: A1 :: A2 :: A3 :: A4 :: A5 :: A6 :: A7 :: A8 :: A9 :: A10 :: A11 :: A12 :: A13 :: A14 :: A15 :: A16 :: A17 :: A18 :: A19 :: A20 :: A21 :: A22 :: L)) w := h.pick 23
theorem Fit.m24 {A0 A1 A2 A3 A4 A5 A6 A7 A8 A9 A10 A11 A12 A13 A14 A15 A16 A17 A18 A19 A20 A21 A22 A23 A24 : HProp} (h : Fit z (sepL (A0 :: A1 :: A2 :: A3 :: A4 :: A5 :: A6 :: A7 :: A8 :: A9 :: A10 :: A11 :: A12 :: A13 :: A14 :: A15 :: A16 :: A17 :: A18 :: A19 :: A20 :: A21 :: A22 :: A23 :: A24 :: L)) w) : Fit z (sepL (A24 :: A0 :: A1 :: A2 :: A3 :: A4 :: A5 :: A6 :: A7 :: A8 :: A9 :: A10 :: A11 :: A12 :: A13 :: A14 :: A15 :: A16 :: A17 :: A18 :: A19 :: A20 :: A21 :: A22 :: A23 :: L)) w := h.pick 24
theorem Fit.m25 {A0 A1 A2 A3 A4 A5 A6 A7 A8 A9 A10 A11 A12 A13 A14 A15 A16 A17 A18 A19 A20 A21 A22 A23 A24 A25 : HProp} (h : Fit z (sepL (A0 :: A1 :: A2 :: A3 :: A4 :: A5 :: A6 :: A7 :: A8 :: A9 :: A10 :: A11 :: A12 :: A13 :: A14 :: A15 :: A16 :: A17 :: A18 :: A19 :: A20 :: A21 :: A22 :: A23 :: A24 :: A25 :: L)) w) : Fit z (sepL (A25 :: A0 :: A1 :: A2 :: A3 :: A4 :: A5 :: A6 :: A7 :: A8 :: A9 :: A10 :: A11 :: A12 :: A13 :: A14 :: A15 :: A16 :: A17 :: A18 :: A19 :: A20 :: A21 :: A22 :: A23 :: A24 :: L)) w := h.pick 25
theorem Fit.m26 {A0 A1 A2 A3 A4 A5 A6 A7 A8 A9 A10 A11 A12 A13 A14 A15 A16 A17 A18 A19 A20 A21 A22 A23 A24 A25 A26 : HProp} (h : Fit z (sepL (A0 :: A1 :: A2 :: A3 :: A4 :: A5 :: A6 :: A7 :: A8 :: A9 :: A10 :: A11 :: A12 :: A13 :: A14 :: A15 :: A16 :: A17 :: A18 :: A19 :: A20 :: A21 :: A22 :: A23 :: A24 :: A25 :: A26 :: L)) w) : Fit z (sepL (A26 :: A0 :: A1 :: A2 :: A3 :: A4 :: A5 :: A6 :: A7 :: A8 :: A9 :: A10 :: A11 :: A12 :: A13 :: A14 :: A15 :: A16 :: A17 :: A18 :: A19 :: A20 :: A21 :: A22 :: A23 :: A24 :: A25 :: L)) w := h.pick 26
theorem Fit.m27 {A0 A1 A2 A3 A4 A5 A6 A7 A8 A9 A10 A11 A12 A13 A14 A15 A16 A17 A18 A19 A20 A21 A22 A23 A24 A25 A26 A27 : HProp} (h : Fit z (sepL (A0 :: A1 :: A2 :: A3 :: A4 :: A5 :: A6 :: A7 :: A8 :: A9 :: A10 :: A11 :: A12 :: A13 :: A14 :: A15 :: A16 :: A17 :: A18 :: A19 :: A20 :: A21 :: A22 :: A23 :: A24 :: A25 :: A26 :: A27 :: L)) w) : Fit z (sepL (A27 :: A0 :: A1 :: A2 :: A3 :: A4 :: A5 :: A6 :: A7 :: A8 :: A9 :: A10 :: A11 :: A12 :: A13 :: A14 :: A15 :: A16 :: A17 :: A18 :: A19 :: A20 :: A21 :: A22 :: A23 :: A24 :: A25 :: A26 :: L)) w := h.pick 27
theorem Fit.m28 {A0 A1 A2 A3 A4 A5 A6 A7 A8 A9 A10 A11 A12 A13 A14 A15 A16 A17 A18 A19 A20 A21 A22 A23 A24 A25 A26 A27 A28 : HProp} (h : Fit z (sepL (A0 :: A1 :: A2 :: A3 :: A4 :: A5 :: A6 :: A7 :: A8 :: A9 :: A10 :: A11 :: A12 :: A13 :: A14 :: A15 :: A16 :: A17 :: A18 :: A19 :: A20 :: A21 :: A22 :: A23 :: A24 :: A25 :: A26 :: A27 :: A28 :: L)) w) : Fit z (sepL (A28 :: A0 :: A1 :: A2 :: A3 :: A4 :: A5 :: A6 :: A7 :: A8 :: A9 :: A10 :: A11 :: A12 :: A13 :: A14 :: A15 :: A16 :: A17 :: A18 :: A19 :: A20 :: A21 :: A22 :: A23 :: A24 :: A25 :: A26 :: A27 :: L)) w := h.pick 28
theorem Fit.m29 {A0 A1 A2 A3 A4 A5 A6 A7 A8 A9 A10 A11 A12 A13 A14 A15 A16 A17 A18 A19 A20 A21 A22 A23 A24 A25 A26 A27 A28 A29 : HProp} (h : Fit z (sepL (A0 :: A1 :: A2 :: A3 :: A4 :: A5 :: A6 :: A7 :: A8 :: A9 :: A10 :: A11 :: A12 :: A13 :: A14 :: A15 :: A16 :: A17 :: A18 :: A19 :: A20 :: A21 :: A22 :: A23 :: A24 :: A25 :: A26 :: A27 :: A28 :: A29 :: L)) w) : Fit z (sepL (A29 :: A0 :: A1 :: A2 :: A3 :: A4 :: A5 :: A6 :: A7 :: A8 :: A9 :: A10 :: A11 :: A12 :: A13 :: A14 :: A15 :: A16 :: A17 :: A18 :: A19 :: A20 :: A21 :: A22 :: A23 :: A24 :: A25 :: A26 :: A27 :: A28 :: L)) w := h.pick 29
theorem Fit.m30 {A0 A1 A2 A3 A4 A5 A6 A7 A8 A9 A10 A11 A12 A13 A14 A15 A16 A17 A18 A19 A20 A21 A22 A23 A24 A25 A26 A27 A28 A29 A30 : HProp} (h : Fit z (sepL (A0 :: A1 :: A2 :: A3 :: A4 :: A5 :: A6 :: A7 :: A8 :: A9 :: A10 :: A11 :: A12 :: A13 :: A14 :: A15 :: A16 :: A17 :: A18 :: A19 :: A20 :: A21 :: A22 :: A23 :: A24 :: A25 :: A26 :: A27 :: A28 :: A29 :: A30 :: L)) w) : Fit z (sepL (A30 :: A0 :: A1 :: A2 :: A3 :: A4 :: A5 :: A6 :: A7 :: A8 :: A9 :: A10 :: A11 :: A12 :: A13 :: A14 :: A15 :: A16 :: A17 :: A18 :: A19 :: A20 :: A21 :: A22 :: A23 :: A24 :: A25 :: A26 :: A27 :: A28 :: A29 :: L)) w := h.pick 30
theorem Fit.m31 {A0 A1 A2 A3 A4 A5 A6 A7 A8 A9 A10 A11 A12 A13 A14 A15 A16 A17 A18 A19 A20 A21 A22 A23 A24 A25 A26 A27 A28 A29 A30 A31 : HProp} (h : Fit z (sepL (A0 :: A1 :: A2 :: A3 :: A4 :: A5 :: A6 :: A7 :: A8 :: A9 :: A10 :: A11 :: A12 :: A13 :: A14 :: A15 :: A16 :: A17 :: A18 :: A19 :: A20 :: A21 :: A22 :: A23 :: A24 :: A25 :: A26 :: A27 :: A28 :: A29 :: A30 :: A31 :: L)) w) : Fit z (sepL (A31 :: A0 :: A1 :: A2 :: A3 :: A4 :: A5 :: A6 :: A7 :: A8 :: A9 :: A10 :: A11 :: A12 :: A13 :: A14 :: A15 :: A16 :: A17 :: A18 :: A19 :: A20 :: A21 :: A22 :: A23 :: A24 :: A25 :: A26 :: A27 :: A28 :: A29 :: A30 :: L)) w := h.pick 31
theorem Fit.m32 {A0 A1 A2 A3 A4 A5 A6 A7 A8 A9 A10 A11 A12 A13 A14 A15 A16 A17 A18 A19 A20 A21 A22 A23 A24 A25 A26 A27 A28 A29 A30 A31 A32 : HProp} (h : Fit z (sepL (A0 :: A1 :: A2 :: A3 :: A4 :: A5 :: A6 :: A7 :: A8 :: A9 :: A10 :: A11 :: A12 :: A13 :: A14 :: A15 :: A16 :: A17 :: A18 :: A19 :: A20 :: A21 :: A22 :: A23 :: A24 :: A25 :: A26 :: A27 :: A28 :: A29 :: A30 :: A31 :: A32 :: L)) w) : Fit z (sepL (A32 :: A0 :: A1 :: A2 :: A3 :: A4 :: A5 :: A6 :: A7 :: A8 :: A9 :: A10 :: A11 :: A12 :: A13 :: A14 :: A15 :: A16 :: A17 :: A18 :: A19 :: A20 :: A21 :: A22 :: A23 :: A24 :: A25 :: A26 :: A27 :: A28 :: A29 :: A30 :: A31 :: L)) w := h.pick 32
theorem Fit.m33 {A0 A1 A2 A3 A4 A5 A6 A7 A8 A9 A10 A11 A12 A13 A14 A15 A16 A17 A18 A19 A20 A21 A22 A23 A24 A25 A26 A27 A28 A29 A30 A31 A32 A33 : HProp} (h : Fit z (sepL (A0 :: A1 :: A2 :: A3 :: A4 :: A5 :: A6 :: A7 :: A8 :: A9 :: A10 :: A11 :: A12 :: A13 :: A14 :: A15 :: A16 :: A17 :: A18 :: A19 :: A20 :: A21 :: A22 :: A23 :: A24 :: A25 :: A26 :: A27 :: A28 :: A29 :: A30 :: A31 :: A32 :: A33 :: L)) w) : Fit z (sepL (A33 :: A0 :: A1 :: A2 :: A3 :: A4 :: A5 :: A6 :: A7 :: A8 :: A9 :: A10 :: A11 :: A12 :: A13 :: A14 :: A15 :: A16 :: A17 :: A18 :: A19 :: A20 :: A21 :: A22 :: A23 :: A24 :: A25 :: A26 :: A27 :: A28 :: A29 :: A30 :: A31 :: A32 :: L)) w := h.pick 33
theorem Fit.m34 {A0 A1 A2 A3 A4 A5 A6 A7 A8 A9 A10 A11 A12 A13 A14 A15 A16 A17 A18 A19 A20 A21 A22 A23 A24 A25 A26 A27 A28 A29 A30 A31 A32 A33 A34 : HProp} (h : Fit z (sepL (A0 :: A1 :: A2 :: A3 :: A4 :: A5 :: A6 :: A7 :: A8 :: A9 :: A10 :: A11 :: A12 :: A13 :: A14 :: A15 :: A16 :: A17 :: A18 :: A19 :: A20 :: A21 :: A22 :: A23 :: A24 :: A25 :: A26 :: A27 :: A28 :: A29 :: A30 :: A31 :: A32 :: A33 :: A34 :: L)) w) : Fit z (sepL (A34 :: A0 :: A1 :: A2 :: A3 :: A4 :: A5 :: A6 :: A7 :: A8 :: A9 :: A10 :: A11 :: A12 :: A13 :: A14 :: A15 :: A16 :: A17 :: A18 :: A19 :: A20 :: A21 :: A22 :: A23 :: A24 :: A25 :: A26 :: A27 :: A28 :: A29 :: A30 :: A31 :: A32 :: A33 :: L)) w := h.pick 34
theorem Fit.m35 {A0 A1 A2 A3 A4 A5 A6 A7 A8 A9 A10 A11 A12 A13 A14 A15 A16 A17 A18 A19 A20 A21 A22 A23 A24 A25 A26 A27 A28 A29 A30 A31 A32 A33 A34 A35 : HProp} (h : Fit z (sepL (A0 :: A1 :: A2 :: A3 :: A4 :: A5 :: A6 :: A7 :: A8 :: A9 :: A10 :: A11 :: A12 :: A13 :: A14 :: A15 :: A16 :: A17 :: A18 :: A19 :: A20 :: A21 :: A22 :: A23 :: A24 :: A25 :: A26 :: A27 :: A28 :: A29 :: A30 :: A31 :: A32 :: A33 :: A34 :: A35 :: L)) w) : Fit z (sepL (A35 :: A0 :: A1 :: A2 :: A3 :: A4 :: A5 :: A6 :: A7 :: A8 :: A9 :: A10 :: A11 :: A12 :: A13 :: A14 :: A15 :: A16 :: A17 :: A18 :: A19 :: A20 :: A21 :: A22 :: A23 :: A24 :: A25 :: A26 :: A27 :: A28 :: A29 :: A30 :: A31 :: A32 :: A33 :: A34 :: L)) w := h.pick 35
theorem Fit.m36 {A0 A1 A2 A3 A4 A5 A6 A7 A8 A9 A10 A11 A12 A13 A14 A15 A16 A17 A18 A19 A20 A21 A22 A23 A24 A25 A26 A27 A28 A29 A30 A31 A32 A33 A34 A35 A36 : HProp} (h : Fit z (sepL (A0 :: A1 :: A2 :: A3 :: A4 :: A5 :: A6 :: A7 :: A8 :: A9 :: A10 :: A11 :: A12 :: A13 :: A14 :: A15 :: A16 :: A17 :: A18 :: A19 :: A20 :: A21 :: A22 :: A23 :: A24 :: A25 :: A26 :: A27 :: A28 :: A29 :: A30 :: A31 :: A32 :: A33 :: A34 :: A35 :: A36 :: L)) w) : Fit z (sepL (A36 :: A0 :: A1 :: A2 :: A3 :: A4 :: A5 :: A6 :: A7 :: A8 :: A9 :: A10 :: A11 :: A12 :: A13 :: A14 :: A15 :: A16 :: A17 :: A18 :: A19 :: A20 :: A21 :: A22 :: A23 :: A24 :: A25 :: A26 :: A27 :: A28 :: A29 :: A30 :: A31 :: A32 :: A33 :: A34 :: A35 :: L)) w := h.pick 36
theorem Fit.m37 {A0 A1 A2 A3 A4 A5 A6 A7 A8 A9 A10 A11 A12 A13 A14 A15 A16 A17 A18 A19 A20 A21 A22 A23 A24 A25 A26 A27 A28 A29 A30 A31 A32 A33 A34 A35 A36 A37 : HProp} (h : Fit z (sepL (A0 :: A1 :: A2 :: A3 :: A4 :: A5 :: A6 :: A7 :: A8 :: A9 :: A10 :: A11 :: A12 :: A13 :: A14 :: A15 :: A16 :: A17 :: A18 :: A19 :: A20 :: A21 :: A22 :: A23 :: A24 :: A25 :: A26 :: A27 :: A28 :: A29 :: A30 :: A31 :: A32 :: A33 :: A34 :: A35 :: A36 :: A37 :: L)) w) : Fit z (sepL (A37 :: A0 :: A1 :: A2 :: A3 :: A4 :: A5 :: A6 :: A7 :: A8 :: A9 :: A10 :: A11 :: A12 :: A13 :: A14 :: A15 :: A16 :: A17 :: A18 :: A19 :: A20 :: A21 :: A22 :: A23 :: A24 :: A25 :: A26 :: A27 :: A28 :: A29 :: A30 :: A31 :: A32 :: A33 :: A34 :: A35 :: A36 :: L)) w := h.pick 37
theorem Fit.m38 {A0 A1 A2 A3 A4 A5 A6 A7 A8 A9 A10 A11 A12 A13 A14 A15 A16 A17 A18 A19 A20 A21 A22 A23 A24 A25 A26 A27 A28 A29 A30 A31 A32 A33 A34 A35 A36 A37 A38 : HProp} (h : Fit z (sepL (A0 :: A1 :: A2 :: A3 :: A4 :: A5 :: A6 :: A7 :: A8 :: A9 :: A10 :: A11 :: A12 :: A13 :: A14 :: A15 :: A16 :: A17 :: A18 :: A19 :: A20 :: A21 :: A22 :: A23 :: A24 :: A25 :: A26 :: A27 :: A28 :: A29 :: A30 :: A31 :: A32 :: A33 :: A34 :: A35 :: A36 :: A37 :: A38 :: L)) w) : Fit z (sepL (A38 :: A0 :: A1 :: A2 :: A3 :: A4 :: A5 :: A6 :: A7 :: A8 :: A9 :: A10 :: A11 :: A12 :: A13 :: A14 :: A15 :: A16 :: A17 :: A18 :: A19 :: A20 :: A21 :: A22 :: A23 :: A24 :: A25 :: A26 :: A27 :: A28 :: A29 :: A30 :: A31 :: A32 :: A33 :: A34 :: A35 :: A36 :: A37 :: L)) w := h.pick 38
theorem Fit.m39 {A0 A1 A2 A3 A4 A5 A6 A7 A8 A9 A10 A11 A12 A13 A14 A15 A16 A17 A18 A19 A20 A21 A22 A23 A24 A25 A26 A27 A28 A29 A30 A31 A32 A33 A34 A35 A36 A37 A38 A39 : HProp} (h : Fit z (sepL (A0 :: A1 :: A2 :: A3 :: A4 :: A5 :: A6 :: A7 :: A8 :: A9 :: A10 :: A11 :: A12 :: A13 :: A14 :: A15 :: A16 :: A17 :: A18 :: A19 :: A20 :: A21 :: A22 :: A23 :: A24 :: A25 :: A26 :: A27 :: A28 :: A29 :: A30 :: A31 :: A32 :: A33 :: A34 :: A35 :: A36 :: A37 :: A38 :: A39 :: L)) w) : Fit z (sepL (A39 :: A0 :: A1 :: A2 :: A3 :: A4 :: A5 :: A6 :: A7 :: A8 :: A9 :: A10 :: A11 :: A12 :: A13 :: A14 :: A15 :: A16 :: A17 :: A18 :: A19 :: A20 :: A21 :: A22 :: A23 :: A24 :: A25 :: A26 :: A27 :: A28 :: A29 :: A30 :: A31 :: A32 :: A33 :: A34 :: A35 :: A36 :: A37 :: A38 :: L)) w := h.pick 39
theorem Fit.m40 {A0 A1 A2 A3 A4 A5 A6 A7 A8 A9 A10 A11 A12 A13 A14 A15 A16 A17 A18 A19 A20 A21 A22 A23 A24 A25 A26 A27 A28 A29 A30 A31 A32 A33 A34 A35 A36 A37 A38 A39 A40 : HProp} (h : Fit z (sepL (A0 :: A1 :: A2 :: A3 :: A4 :: A5 :: A6 :: A7 :: A8 :: A9 :: A10 :: A11 :: A12 :: A13 :: A14 :: A15 :: A16 :: A17 :: A18 :: A19 :: A20 :: A21 :: A22 :: A23 :: A24 :: A25 :: A26 :: A27 :: A28 :: A29 :: A30 :: A31 :: A32 :: A33 :: A34 :: A35 :: A36 :: A37 :: A38 :: A39 :: A40 :: L)) w) : Fit z (sepL (A40 :: A0 :: A1 :: A2 :: A3 :: A4 :: A5 :: A6 :: A7 :: A8 :: A9 :: A10 :: A11 :: A12 :: A13 :: A14 :: A15 :: A16 :: A17 :: A18 :: A19 :: A20 :: A21 :: A22 :: A23 :: A24 :: A25 :: A26 :: A27 :: A28 :: A29 :: A30 :: A31 :: A32 :: A33 :: A34 :: A35 :: A36 :: A37 :: A38 :: A39 :: L)) w := h.pick 40
theorem Fit.m41 {A0 A1 A2 A3 A4 A5 A6 A7 A8 A9 A10 A11 A12 A13 A14 A15 A16 A17 A18 A19 A20 A21 A22 A23 A24 A25 A26 A27 A28 A29 A30 A31 A32 A33 A34 A35 A36 A37 A38 A39 A40 A41 : HProp} (h : Fit z (sepL (A0 :: A1 :: A2 :: A3 :: A4 :: A5 :: A6 :: A7 :: A8 :: A9 :: A10 :: A11 :: A12 :: A13 :: A14 :: A15 :: A16 :: A17 :: A18 :: A19 :: A20 :: A21 :: A22 :: A23 :: A24 :: A25 :: A26 :: A27 :: A28 :: A29 :: A30 :: A31 :: A32 :: A33 :: A34 :: A35 :: A36 :: A37 :: A38 :: A39 :: A40 :: A41 :: L)) w) : Fit z (sepL (A41 :: A0 :: A1 :: A2 :: A3 :: A4 :: A5 :: A6 :: A7 :: A8 :: A9 :: A10 :: A11 :: A12 :: A13 :: A14 :: A15 :: A16 :: A17 :: A18 :: A19 :: A20 :: A21 :: A22 :: A23 :: A24 :: A25 :: A26 :: A27 :: A28 :: A29 :: A30 :: A31 :: A32 :: A33 :: A34 :: A35 :: A36 :: A37 :: A38 :: A39 :: A40 :: L)) w := h.pick 41
theorem Fit.m42 {A0 A1 A2 A3 A4 A5 A6 A7 A8 A9 A10 A11 A12 A13 A14 A15 A16 A17 A18 A19 A20 A21 A22 A23 A24 A25 A26 A27 A28 A29 A30 A31 A32 A33 A34 A35 A36 A37 A38 A39 A40 A41 A42 : HProp} (h : Fit z (sepL (A0 :: A1 :: A2 :: A3 :: A4 :: A5 :: A6 :: A7 :: A8 :: A9 :: A10 :: A11 :: A12 :: A13 :: A14 :: A15 :: A16 :: A17 :: A18 :: A19 :: A20 :: A21 :: A22 :: A23 :: A24 :: A25 :: A26 :: A27 :: A28 :: A29 :: A30 :: A31 :: A32 :: A33 :: A34 :: A35 :: A36 :: A37 :: A38 :: A39 :: A40 :: A41 :: A42 :: L)) w) : Fit z (sepL (A42 :: A0 :: A1 :: A2 :: A3 :: A4 :: A5 :: A6 :: A7 :: A8 :: A9 :: A10 :: A11 :: A12 :: A13 :: A14 :: A15 :: A16 :: A17 :: A18 :: A19 :: A20 :: A21 :: A22 :: A23 :: A24 :: A25 :: A26 :: A27 :: A28 :: A29 :: A30 :: A31 :: A32 :: A33 :: A34 :: A35 :: A36 :: A37 :: A38 :: A39 :: A40 :: A41 :: L)) w := h.pick 42
theorem Fit.m43 {A0 A1 A2 A3 A4 A5 A6 A7 A8 A9 A10 A11 A12 A13 A14 A15 A16 A17 A18 A19 A20 A21 A22 A23 A24 A25 A26 A27 A28 A29 A30 A31 A32 A33 A34 A35 A36 A37 A38 A39 A40 A41 A42 A43 : HProp} (h : Fit z (sepL (A0 :: A1 :: A2 :: A3 :: A4 :: A5 :: A6 :: A7 :: A8 :: A9 :: A10 :: A11 :: A12 :: A13 :: A14 :: A15 :: A16 :: A17 :: A18 :: A19 :: A20 :: A21 :: A22 :: A23 :: A24 :: A25 :: A26 :: A27 :: A28 :: A29 :: A30 :: A31 :: A32 :: A33 :: A34 :: A35 :: A36 :: A37 :: A38 :: A39 :: A40 :: A41 :: A42 :: A43 :: L)) w) : Fit z (sepL (A43 :: A0 :: A1 :: A2 :: A3 :: A4 :: A5 :: A6 :: A7 :: A8 :: A9 :: A10 :: A11 :: A12 :: A13 :: A14 :: A15 :: A16 :: A17 :: A18 :: A19 :: A20 :: A21 :: A22 :: A23 :: A24 :: A25 :: A26 :: A27 :: A28 :: A29 :: A30 :: A31 :: A32 :: A33 :: A34 :: A35 :: A36 :: A37 :: A38 :: A39 :: A40 :: A41 :: A42 :: L)) w := h.pick 43
theorem Fit.m44 {A0 A1 A2 A3 A4 A5 A6 A7 A8 A9 A10 A11 A12 A13 A14 A15 A16 A17 A18 A19 A20 A21 A22 A23 A24 A25 A26 A27 A28 A29 A30 A31 A32 A33 A34 A35 A36 A37 A38 A39 A40 A41 A42 A43 A44 : HProp} (h : Fit z (sepL (A0 :: A1 :: A2 :: A3 :: A4 :: A5 :: A6 :: A7 :: A8 :: A9 :: A10 :: A11 :: A12 :: A13 :: A14 :: A15 :: A16 :: A17 :: A18 :: A19 :: A20 :: A21 :: A22 :: A23 :: A24 :: A25 :: A26 :: A27 :: A28 :: A29 :: A30 :: A31 :: A32 :: A33 :: A34 :: A35 :: A36 :: A37 :: A38 :: A39 :: A40 :: A41 :: A42 :: A43 :: A44 :: L)) w) : Fit z (sepL (A44 :: A0 :: A1 :: A2 :: A3 :: A4 :: A5 :: A6 :: A7 :: A8 :: A9 :: A10 :: A11 :: A12 :: A13 :: A14 :: A15 :: A16 :: A17 :: A18 :: A19 :: A20 :: A21 :: A22 :: A23 :: A24 :: A25 :: A26 :: A27 :: A28 :: A29 :: A30 :: A31 :: A32 :: A33 :: A34 :: A35 :: A36 :: A37 :: A38 :: A39 :: A40 :: A41 :: A42 :: A43 :: L)) w := h.pick 44
theorem Fit.ren0 {n m : Nat} (e : n = m) (F : Nat → HProp) (h : Fit z (sepL (F n :: L)) w) : Fit z (sepL (F m :: L)) w := e ▸ h
theorem Fit.ren1 {n m : Nat} (e : n = m) (F G : Nat → HProp) (h : Fit z (sepL (F n :: G n :: L)) w) : Fit z (sepL (F m :: G m :: L)) w := e ▸ h
theorem Fit.ren2 {n m : Nat} (e : n = m) (F G K : Nat → HProp) (h : Fit z (sepL (F n :: G n :: K n :: L)) w) : Fit z (sepL (F m :: G m :: K m :: L)) w := e ▸ h
theorem Fit.se (h : Fit z (sepL L) w) (n : Nat) (is : List Nat) (hB : GX.selB n is = true := by kernel_rfl) (e : is.map (fun i => L.getD i emp) ++ L.drop n = L' := by kernel_rfl) : Fit z (sepL L') w := h.sel n is hB e
end
end Go.Proofs.YtpikpffbcjpmcaaGreatDoor.SL
namespace Go.Proofs.YtpikpffbcjpmcaaGreatDoor.GX
open Go Go.RowKit Go.Proofs.YtpikpffbcjpmcaaGreatDoor.SL
set_option linter.unusedVariables false
section
variable {P : Program} {ops : Array Oper} {Q : Exit → Act → World → Prop} {a : Act} {w w0 w1 : World} {rest os : List Oper} {o : Oper} {n d t T : Nat} {v u : Value} {l : List (Nat × Value)} {j e : Nat → Value} {L : List HProp} {Df : List Deferred}
theorem RepD.fj {X : Prop} (h : RepD Df n e a) (hX : X) (hl : l.map (fun p => e p.1) = l.map (·.2) := by kernel_rfl) : ∃ j, RepD Df n (lk l j) a ∧ X := let ⟨j, h⟩ := h.fold2 l hl; ⟨j, h, hX⟩
theorem RepD.re (h : RepD Df n (lk l j) a) (t : Nat) {v v' : Value} (e : v = v') (hv : lk l j t = v := by kernel_rfl) : RepD Df n (lk ((t, v') :: l) j) a := by
  obtain ⟨h1, h2, h3⟩ := h
  refine ⟨h1, fun q => ?_, h3⟩
  rw [h2 q]
  show lk l j q = bif Nat.beq q t then v' else lk l j q
  cases hb : Nat.beq q t with
  | false => rfl
  | true => have := Nat.eq_of_beq_eq_true hb; subst this; rw [hv, e]; rfl
/-- What the floating reads look at. -/
def HL : List (Nat × Nat × List Value) → World → Prop
  | [], _ => True
  | p :: r, w => heldC w p.1 p.2.1 p.2.2 ∧ HL r w
theorem HL_go : ∀ D w w', CellsGo w w' → HL D w → HL D w'
  | [], _, _, _, _ => trivial
  | p :: r, w, w', g, h => ⟨heldC_go _ _ _ _ _ g h.1, HL_go r w w' g h.2⟩
theorem HL_get : ∀ {D : List (Nat × Nat × List Value)} {k : Nat} {p : Nat × Nat × List Value}, D[k]? = some p → HL D w → heldC w p.1 p.2.1 p.2.2
  | [], k, p, e, _ => by simp at e
  | q :: r, 0, p, e, h => by simp at e; subst e; exact h.1
  | q :: r, k + 1, p, e, h => HL_get (D := r) (k := k) (by simpa using e) h.2
variable {D : List (Nat × Nat × List Value)} {E : List Nat} {listed : Array Bool} {N : Nat}
theorem regL {id : Nat} {lo : List Oper} {H : HProp} (D : List (Nat × Nat × List Value)) (E : List Nat) (N : Nat) (hF : Fit w0 H w) (hd : ∀ {w}, Fit w0 H w → HL D w)
    (k : ∀ w, Fit w0 H w → HL D w → wpAnyE P .any lo.toArray Q (HL D) E N (Array.replicate N false) a w) (hm : P.follows .mixedOrders = true := by kernel_rfl) (hN : lo.toArray.size = N := by rfl) :
    (Code.region id lo.toArray true).wp P Q a w := by
  subst hN; exact reg_E (HL D) E hF hm fun w h => k w h (hd h)
theorem regS {id : Nat} {lo : List Oper} {H : HProp} {y : Code} (D : List (Nat × Nat × List Value)) (E : List Nat) (N : Nat) (hF : Fit w0 H w) (hd : ∀ {w}, Fit w0 H w → HL D w)
    (k : ∀ w, Fit w0 H w → HL D w → wpAnyE P .any lo.toArray (Exit.then (y.wp P Q) Q) (HL D) E N (Array.replicate N false) a w) (hm : P.follows .mixedOrders = true := by kernel_rfl) (hN : lo.toArray.size = N := by rfl) :
    (Code.seq (Code.region id lo.toArray true) y).wp P Q a w := wp_seq (regL D E N hF hd k hm hN)
def okX (ops : Array Oper) (E : List Nat) (listed : Array Bool) (i : Nat) : Bool := okB ops E listed i || okP ops E listed i
theorem e1 [hp : PI Q] (hd : HL D w) (fuel i : Nat) (hi : ops[i]? = some o) (hB : okX ops E listed i = true) (hw : Region.wanted o (yielded ops a.tmps) = true) (hr : RepD Df n (lk l j) a) (v : Value)
    (hrun : ∀ w, (execOp (evE (lk l j)) o).run P w = .ok (.value v) w) (k : ∀ a, RepD Df n (lk ((d, v) :: l) j) a → wpAnyE P .any ops Q (HL D) E fuel (listed.setIfInBounds i true) a w) (h1 : o.dst = some d) (hn : Nat.blt d n = true) :
    wpAnyE P .any ops Q (HL D) E (fuel + 1) listed a w := by
  unfold okX at hB
  rw [Bool.or_eq_true] at hB
  rcases hB with hB | hB
  · exact ev fuel i hi hB hw hr v hrun k h1 hn
  · exact evD (HL_go D) hd fuel i hi hB hw hr v hrun k h1 hn
theorem e0 [hp : PI Q] (hd : HL D w) (fuel i : Nat) (hi : ops[i]? = some o) (hB : okX ops E listed i = true) (hw : Region.wanted o (yielded ops a.tmps) = false) (hr : RepD Df n (lk l j) a)
    (k : ∀ a, RepD Df n (lk ((d, undef) :: l) j) a → wpAnyE P .any ops Q (HL D) E fuel (listed.setIfInBounds i true) a w) (h1 : o.dst = some d) (hn : Nat.blt d n = true) :
    wpAnyE P .any ops Q (HL D) E (fuel + 1) listed a w := by
  unfold okX at hB
  rw [Bool.or_eq_true] at hB
  rcases hB with hB | hB
  · exact eo fuel i hi hB hw hr k h1 hn
  · exact eoD (HL_go D) hd fuel i hi hB hw hr k h1 hn
/-- A guarded one that is passed over. -/
theorem eof [hp : PI Q] (hd : HL D w) (f i : Nat) (hi : ops[i]? = some o) (hw : Region.wanted o (yielded ops a.tmps) = false) (hr : RepD Df n (lk l j) a)
    (k : ∀ a, RepD Df n (lk ((d, undef) :: l) j) a → wpAnyE P .any ops Q (HL D) E f (listed.setIfInBounds i true) a w) (hB : okX ops E listed i = true := by kernel_rfl) (h1 : o.dst = some d := by rfl) (hn : Nat.blt d n = true := by rfl) :
    wpAnyE P .any ops Q (HL D) E (f + 1) listed a w := e0 hd f i hi hB hw hr k h1 hn
/-- A guarded one. -/
theorem eon [hp : PI Q] (hd : HL D w) (f i : Nat) (hi : ops[i]? = some o) (hw : Region.wanted o (yielded ops a.tmps) = true) (hr : RepD Df n (lk l j) a) (v : Value)
    (k : ∀ a, RepD Df n (lk ((d, v) :: l) j) a → wpAnyE P .any ops Q (HL D) E f (listed.setIfInBounds i true) a w) (hB : okX ops E listed i = true := by kernel_rfl) (hrun : ∀ w, (execOp (evE (lk l j)) o).run P w = .ok (.value v) w := by intro w; kernel_rfl) (h1 : o.dst = some d := by rfl) (hn : Nat.blt d n = true := by rfl) :
    wpAnyE P .any ops Q (HL D) E (f + 1) listed a w := e1 hd f i hi hB hw hr v hrun k h1 hn
def setL : List (Nat × Nat × Value) → Array Bool → Array Bool
  | [], s => s
  | p :: r, s => setL r (s.setIfInBounds p.1 true)
def addE : List (Nat × Nat × Value) → List (Nat × Value) → List (Nat × Value)
  | [], l => l
  | p :: r, l => addE r ((p.2.1, p.2.2) :: l)
def runE (P : Program) (ops : Array Oper) : List (Nat × Nat × Value) → List (Nat × Value) → (Nat → Value) → World → List (Option (Option Nat × Option (Nat × Bool)) × Result Next)
  | [], _, _, _ => []
  | p :: r, l, j, w => ((ops[p.1]?).map fun o => (o.dst, o.guard), (match ops[p.1]? with | some o => (execOp (evE (lk l j)) o).run P w | none => .ok .skip w)) :: runE P ops r ((p.2.1, p.2.2) :: l) j w
def wantE : List (Nat × Nat × Value) → World → List (Option (Option Nat × Option (Nat × Bool)) × Result Next)
  | [], _ => []
  | p :: r, w => (some (some p.2.1, none), .ok (.value p.2.2) w) :: wantE r w
def okE (ops : Array Oper) (E : List Nat) (n : Nat) : List (Nat × Nat × Value) → Array Bool → Bool
  | [], _ => true
  | p :: r, s => okX ops E s p.1 && Nat.blt p.2.1 n && okE ops E n r (s.setIfInBounds p.1 true)
theorem evl [hp : PI Q] (hd : HL D w) (f : Nat) : ∀ (is : List (Nat × Nat × Value)) {listed : Array Bool} {a : Act} {l : List (Nat × Value)} (hr : RepD Df n (lk l j) a)
    (k : ∀ a, RepD Df n (lk (addE is l) j) a → wpAnyE P .any ops Q (HL D) E f (setL is listed) a w) (hB : okE ops E n is listed = true := by kernel_rfl) (hrun : ∀ w, runE P ops is l j w = wantE is w := by intro w; kernel_rfl),
    wpAnyE P .any ops Q (HL D) E (f + is.length) listed a w
  | [], listed, a, l, hr, k, _, _ => k a hr
  | p :: is, listed, a, l, hr, k, hB, hrun => by
    simp only [okE, Bool.and_eq_true] at hB
    obtain ⟨⟨h1, h2⟩, h3⟩ := hB
    have hrun' : ∀ w, runE P ops is ((p.2.1, p.2.2) :: l) j w = wantE is w := fun w => by have := hrun w; simp only [runE, wantE, List.cons.injEq] at this; exact this.2
    cases ho : ops[p.1]? with
    | none => have := hrun w; simp only [runE, wantE, ho, List.cons.injEq] at this; simp at this
    | some o =>
      have h4 : ∀ w, (o.dst = some p.2.1 ∧ o.guard = none) ∧ (execOp (evE (lk l j)) o).run P w = .ok (.value p.2.2) w := fun w => by
        have := hrun w; simp only [runE, wantE, ho, List.cons.injEq, Option.map_some, Prod.mk.injEq, Option.some.injEq] at this; exact this.1
      have h5 := (h4 w).1
      exact e1 hd (f + is.length) p.1 ho h1 (wn h5.2) hr p.2.2 (fun w => (h4 w).2) (fun a hr => evl hd f is hr k h3 hrun') h5.1 h2
theorem evs' [hp : PI Q] (hd : HL D w) (f : Nat) (is : List (Nat × Nat × Value)) (hr : RepD Df n (lk l j) a) (k : ∀ a, RepD Df n (lk (addE is l) j) a → wpAnyE P .any ops Q (HL D) E f (setL is listed) a w)
    (hN : f + is.length = N := by rfl) (hB : okE ops E n is listed = true := by kernel_rfl) (hrun : ∀ w, runE P ops is l j w = wantE is w := by intro w; kernel_rfl) : wpAnyE P .any ops Q (HL D) E N listed a w := by
  subst hN; exact evl hd f is hr k hB hrun
/-- A read that floats: of one cell; of several. -/
theorem elx [hp : PI Q] (hd : HL D w) (q f i : Nat) {b off : Nat} {x : Operand} (hr : RepD Df n (lk l j) a) (hw : Region.wanted o (yielded ops a.tmps) = true) (hi : ops[i]? = some o) (hq : D[q]? = some (b, off, [v]))
    (k : ∀ a, RepD Df n (lk ((d, v) :: l) j) a → wpAnyE P .any ops Q (HL D) E f (listed.setIfInBounds i true) a w) (hB : (okB ops E listed i && presE .any ops E listed i) = true := by kernel_rfl)
    (ho : o.op = .load T x := by rfl) (hx : evE (lk l j) x = .pointer (some ⟨b, off, none⟩) := by kernel_rfl) (hu : notAgg (P.underlying T) = true := by kernel_rfl) (h1 : o.dst = some d := by rfl) (hn : Nat.blt d n = true := by rfl) :
    wpAnyE P .any ops Q (HL D) E (f + 1) listed a w :=
  el E (b := b) (off := off) (cs := [v]) (fun _ hk => ⟨hk, fun w h => HL_get hq h⟩) f i hi hB hw hr v (HL_get hq hd) (fun w hc => rl ho hx hu hc.1) k h1 hn
theorem elm [hp : PI Q] (hd : HL D w) (q f i : Nat) {b off : Nat} {cs : List Value} {x : Operand} (hr : RepD Df n (lk l j) a) (hw : Region.wanted o (yielded ops a.tmps) = true) (hi : ops[i]? = some o) (hq : D[q]? = some (b, off, cs))
    (k : ∀ a, RepD Df n (lk ((d, .agg cs.toArray) :: l) j) a → wpAnyE P .any ops Q (HL D) E f (listed.setIfInBounds i true) a w) (hB : (okB ops E listed i && presE .any ops E listed i) = true := by kernel_rfl)
    (ho : o.op = .load T x := by rfl) (hx : evE (lk l j) x = .pointer (some ⟨b, off, none⟩) := by kernel_rfl) (hu : isAggB (P.underlying T) = true := by kernel_rfl) (hs : (P.info? T).map (·.size) = some cs.length := by kernel_rfl) (h1 : o.dst = some d := by rfl) (hn : Nat.blt d n = true := by rfl) :
    wpAnyE P .any ops Q (HL D) E (f + 1) listed a w :=
  el E (b := b) (off := off) (cs := cs) (fun _ hk => ⟨hk, fun w h => HL_get hq h⟩) f i hi hB hw hr _ (HL_get hq hd) (fun w hc => rlm ho hx hu hs hc) k h1 hn
/-- .. that does not. -/
theorem elh [hp : PI Q] (f i : Nat) {b off : Nat} {x : Operand} (hr : RepD Df n (lk l j) a) (hw : Region.wanted o (yielded ops a.tmps) = true) (hi : ops[i]? = some o) (hc : w.cell? ⟨b, off, none⟩ = some v)
    (k : ∀ a, RepD Df n (lk ((d, v) :: l) j) a → wpAnyE P .any ops Q (HL D) E f (listed.setIfInBounds i true) a w) (hB : (okB ops E listed i && presE .any ops [] listed i) = true := by kernel_rfl)
    (ho : o.op = .load T x := by rfl) (hx : evE (lk l j) x = .pointer (some ⟨b, off, none⟩) := by kernel_rfl) (hu : notAgg (P.underlying T) = true := by kernel_rfl) (h1 : o.dst = some d := by rfl) (hn : Nat.blt d n = true := by rfl) :
    wpAnyE P .any ops Q (HL D) E (f + 1) listed a w :=
  el [] (b := b) (off := off) (cs := [v]) (fun _ hk => nomatch hk) f i hi hB hw hr v ⟨hc, trivial⟩ (fun w hc => rl ho hx hu hc.1) k h1 hn
theorem elhm [hp : PI Q] (f i : Nat) {b off : Nat} {cs : List Value} {x : Operand} (hr : RepD Df n (lk l j) a) (hw : Region.wanted o (yielded ops a.tmps) = true) (hi : ops[i]? = some o) (hc : heldC w b off cs)
    (k : ∀ a, RepD Df n (lk ((d, .agg cs.toArray) :: l) j) a → wpAnyE P .any ops Q (HL D) E f (listed.setIfInBounds i true) a w) (hB : (okB ops E listed i && presE .any ops [] listed i) = true := by kernel_rfl)
    (ho : o.op = .load T x := by rfl) (hx : evE (lk l j) x = .pointer (some ⟨b, off, none⟩) := by kernel_rfl) (hu : isAggB (P.underlying T) = true := by kernel_rfl) (hs : (P.info? T).map (·.size) = some cs.length := by kernel_rfl) (h1 : o.dst = some d := by rfl) (hn : Nat.blt d n = true := by rfl) :
    wpAnyE P .any ops Q (HL D) E (f + 1) listed a w :=
  el [] (b := b) (off := off) (cs := cs) (fun _ hk => nomatch hk) f i hi hB hw hr _ hc (fun w hc => rlm ho hx hu hs hc) k h1 hn
theorem eE {p X Y : Prop} (hd : Y) (k : Y → X) : (p → Y) ∧ X := ⟨fun _ => hd, k hd⟩
theorem xE {i : Nat} {X Y : Prop} (k : X) (hB : ¬ i ∈ E := by decide) : (i ∈ E → Y) ∧ X := ⟨fun h => absurd h hB, k⟩
theorem eo1 (i : Nat) {D : World → Prop} {fuel : Nat} (hi : ops[i]? = some o) (k : wpList P ops (Exit.then (fun a w => (i ∈ E → D w) ∧ wpAnyE P .any ops Q D E fuel (listed.setIfInBounds i true) a w) Q) [o] a w)
    (hrd : Region.ready .any ops listed = [i] := by kernel_rfl) : wpAnyE P .any ops Q D E (fuel + 1) listed a w := e_one hrd hi k
theorem een {D : World → Prop} {fuel : Nat} (k : Q .normal a w) (hrd : Region.ready .any ops listed = [] := by kernel_rfl) : wpAnyE P .any ops Q D E fuel listed a w := e_end hrd k
/-! ### tests -/
section
variable {β : Type} {p : Prop} [Decidable p] {X Y r : Option β} {c : Operand} {x y : Code}
theorem cD (hr : RepD Df n e a) (H : (if p then X else Y) = r) (k1 : p → X = r → x.wp P Q a w) (k2 : ¬ p → Y = r → y.wp P Q a w) (hc : evE e c = .bool (decide p) := by kernel_rfl) : (Code.cond c x y).wp P Q a w := by
  by_cases h : p
  · rw [if_pos h] at H; exact cond_t hr hc (decide_eq_true h) (k1 h H)
  · rw [if_neg h] at H; exact cond_f hr hc (decide_eq_false h) (k2 h H)
theorem cN (hr : RepD Df n e a) (H : (if p then X else Y) = r) (k1 : p → X = r → y.wp P Q a w) (k2 : ¬ p → Y = r → x.wp P Q a w) (hc : evE e c = .bool (!decide p) := by kernel_rfl) : (Code.cond c x y).wp P Q a w := by
  by_cases h : p
  · rw [if_pos h] at H; exact cond_f hr hc (by simp [h]) (k1 h H)
  · rw [if_neg h] at H; exact cond_t hr hc (by simp [h]) (k2 h H)
theorem cV {b : Bool} (hr : RepD Df n e a) (H : (if b = true then X else Y) = r) (k1 : b = true → X = r → x.wp P Q a w) (k2 : ¬ b = true → Y = r → y.wp P Q a w) (hc : evE e c = .bool b := by kernel_rfl) : (Code.cond c x y).wp P Q a w := by
  by_cases h : b = true
  · rw [if_pos h] at H; exact cond_t hr hc h (k1 h H)
  · rw [if_neg h] at H; exact cond_f hr hc (by simpa using h) (k2 h H)
theorem cM {b : Bool} (hr : RepD Df n e a) (H : (if b = true then X else Y) = r) (k1 : b = true → X = r → y.wp P Q a w) (k2 : ¬ b = true → Y = r → x.wp P Q a w) (hc : evE e c = .bool (!b) := by kernel_rfl) : (Code.cond c x y).wp P Q a w := by
  by_cases h : b = true
  · rw [if_pos h] at H; exact cond_f hr hc (by simp [h]) (k1 h H)
  · rw [if_neg h] at H; exact cond_t hr hc (by simpa using h) (k2 h H)
end
/-! ### guarded operations, several of one guard -/
def runG (P : Program) (ops : Array Oper) (n : Nat) : List Oper → List Value → List (Nat × Value) → (Nat → Value) → World → List (Option Nat × Option (Bool × Option (Bool × Value)) × Result Next)
  | o :: os, v :: vs, l, j, w => (o.dst, o.guard.map (fun g => (g.2, ((ops[g.1]?).bind (·.dst)).map fun t => (Nat.blt t n, lk l j t))), (execOp (evE (lk l j)) o).run P w) :: runG P ops n os vs ((o.dst.getD 0, v) :: l) j w
  | _, _, _, _, _ => []
def wantG (x c : Bool) : List Nat → List Value → World → List (Option Nat × Option (Bool × Option (Bool × Value)) × Result Next)
  | d :: ds, v :: vs, w => (some d, some (c, some (true, .bool x)), .ok (.value v) w) :: wantG x c ds vs w
  | _, _, _ => []
theorem wgx {i : Nat} {b x c : Bool} (hr : RepD Df n e a) (pf : x = c) (h : o.guard.map (fun g => (g.2, ((ops[g.1]?).bind (·.dst)).map fun t => (Nat.blt t n, e t))) = some (b, some (true, .bool x))) : Region.wanted o (yielded ops a.tmps) = (c == b) := by
  subst pf
  cases hg : o.guard with
  | none => rw [hg] at h; cases h
  | some g =>
    obtain ⟨i, b'⟩ := g
    simp only [hg, Option.map_some, Option.some.injEq, Prod.mk.injEq] at h
    obtain ⟨rfl, h⟩ := h
    cases ht : (ops[i]?).bind (·.dst) with
    | none => rw [ht] at h; cases h
    | some t =>
      simp only [ht, Option.map_some, Option.some.injEq, Prod.mk.injEq] at h
      exact wg hr hg ht h.1 h.2
theorem onl {x c : Bool} (pf : x = c) : ∀ (ds : List Nat) (vs : List Value) {os : List Oper} {a : Act} {l : List (Nat × Value)} (hr : RepD Df n (lk l j) a) (k : ∀ a, RepD Df n (lk (addD ds vs l) j) a → wpList P ops Q (os.drop ds.length) a w)
    (hl : ds.length = vs.length ∧ ds.all (fun d => Nat.blt d n) = true := by exact ⟨rfl, rfl⟩) (hrun : runG P ops n (os.take ds.length) vs l j w = wantG x c ds vs w := by kernel_rfl), wpList P ops Q os a w
  | [], [], os, a, l, hr, k, _, _ => k a hr
  | [], v :: vs, os, a, l, hr, k, hl, _ => by simp at hl
  | d :: ds, [], os, a, l, hr, k, hl, _ => by simp at hl
  | d :: ds, v :: vs, [], a, l, hr, k, hl, hrun => by simp [runG, wantG] at hrun
  | d :: ds, v :: vs, o :: os, a, l, hr, k, hl, hrun => by
    simp only [List.length_cons, List.take_succ_cons, runG, wantG, List.cons.injEq, Prod.mk.injEq] at hrun
    obtain ⟨⟨h1, h2, h3⟩, h4⟩ := hrun
    obtain ⟨hl1, hl2⟩ := hl
    simp only [List.all_cons, Bool.and_eq_true] at hl2
    refine op_val (by rw [wgx (i := 0) hr pf h2]; simp) h1 hl2.1 hr h3 fun a hr => ?_
    rw [h1] at h4
    exact onl pf ds vs hr k ⟨by simpa using hl1, hl2.2⟩ h4
def runO (ops : Array Oper) (n : Nat) : List Oper → List (Nat × Value) → (Nat → Value) → List (Option Nat × Option (Bool × Option (Bool × Value)))
  | o :: os, l, j => (o.dst, o.guard.map (fun g => (g.2, ((ops[g.1]?).bind (·.dst)).map fun t => (Nat.blt t n, lk l j t)))) :: runO ops n os ((o.dst.getD 0, undef) :: l) j
  | _, _, _ => []
def wantO (b : Bool) (gv : Value) : List Nat → List (Option Nat × Option (Bool × Option (Bool × Value)))
  | d :: ds => (some d, some (b, some (true, gv))) :: wantO b gv ds
  | _ => []
def addU : List Nat → List (Nat × Value) → List (Nat × Value)
  | d :: ds, l => addU ds ((d, undef) :: l)
  | _, l => l
theorem offl {x c : Bool} (pf : x = c) : ∀ (ds : List Nat) {os : List Oper} {a : Act} {l : List (Nat × Value)} (hr : RepD Df n (lk l j) a) (k : ∀ a, RepD Df n (lk (addU ds l) j) a → wpList P ops Q (os.drop ds.length) a w)
    (hl : ds.all (fun d => Nat.blt d n) = true := by rfl) (hrun : runO ops n (os.take ds.length) l j = wantO (!c) (.bool x) ds := by kernel_rfl), wpList P ops Q os a w
  | [], os, a, l, hr, k, _, _ => k a hr
  | d :: ds, [], a, l, hr, k, hl, hrun => by simp [runO, wantO] at hrun
  | d :: ds, o :: os, a, l, hr, k, hl, hrun => by
    simp only [List.length_cons, List.take_succ_cons, runO, wantO, List.cons.injEq, Prod.mk.injEq] at hrun
    obtain ⟨⟨h1, h2⟩, h4⟩ := hrun
    simp only [List.all_cons, Bool.and_eq_true] at hl
    refine op_off (by rw [wgx (i := 0) hr pf h2]; cases c <;> rfl) h1 hl.1 hr fun a hr => ?_
    rw [h1] at h4
    exact offl pf ds hr k hl.2 h4
theorem wux {b : Bool} (hr : RepD Df n e a) (h : o.guard.map (fun g => (g.2, ((ops[g.1]?).bind (·.dst)).map fun t => (Nat.blt t n, e t))) = some (b, some (true, undef))) : Region.wanted o (yielded ops a.tmps) = false := by
  cases hg : o.guard with
  | none => rw [hg] at h; cases h
  | some g =>
    obtain ⟨i, b'⟩ := g
    simp only [hg, Option.map_some, Option.some.injEq, Prod.mk.injEq] at h
    obtain ⟨rfl, h⟩ := h
    cases ht : (ops[i]?).bind (·.dst) with
    | none => rw [ht] at h; cases h
    | some t =>
      simp only [ht, Option.map_some, Option.some.injEq, Prod.mk.injEq] at h
      exact wg_undef hr hg ht h.1 h.2
theorem offu (b : Bool) : ∀ (ds : List Nat) {os : List Oper} {a : Act} {l : List (Nat × Value)} (hr : RepD Df n (lk l j) a) (k : ∀ a, RepD Df n (lk (addU ds l) j) a → wpList P ops Q (os.drop ds.length) a w)
    (hl : ds.all (fun d => Nat.blt d n) = true := by rfl) (hrun : runO ops n (os.take ds.length) l j = wantO b undef ds := by kernel_rfl), wpList P ops Q os a w
  | [], os, a, l, hr, k, _, _ => k a hr
  | d :: ds, [], a, l, hr, k, hl, hrun => by simp [runO, wantO] at hrun
  | d :: ds, o :: os, a, l, hr, k, hl, hrun => by
    simp only [List.length_cons, List.take_succ_cons, runO, wantO, List.cons.injEq, Prod.mk.injEq] at hrun
    obtain ⟨⟨h1, h2⟩, h4⟩ := hrun
    simp only [List.all_cons, Bool.and_eq_true] at hl
    refine op_off (wux hr h2) h1 hl.1 hr fun a hr => ?_
    rw [h1] at h4
    exact offu b ds hr k hl.2 h4
/-! ### stores, the part told anew -/
theorem st1 {x y : Operand} {b : Nat} {cs : Array Value} {T' : TypeId} (hw : Region.wanted o (yielded ops a.tmps) = true) (hr : RepD Df n (lk l j) a) (hF : Fit w0 (sepL (pts b (.cells cs T') :: L)) w) (i : Nat) (v : Value) (A : HProp)
    (k : ∀ w1, Fit w0 (sepL (A :: L)) w1 → wpList P ops Q rest a w1) (hd : o.dst = none := by rfl) (ho : o.op = .store T x y := by rfl) (hx : evE (lk l j) x = .pointer (some ⟨b, i, none⟩) := by kernel_rfl) (hy : evE (lk l j) y = v := by kernel_rfl)
    (hv : v.cells = #[v] := by rfl) (h1 : v.oneCell' = true := by rfl) (hs : (P.info? T).map (·.size) = some 1 := by kernel_rfl) (hc : (cs[i]?).isSome = true := by kernel_rfl) (hA : pts b (.cells (cs.setIfInBounds i v) T') = A := by kernel_rfl) : wpList P ops Q (o :: rest) a w := by
  subst hA
  cases hu : cs[i]? with
  | none => rw [hu] at hc; cases hc
  | some u => exact op_store hw hd hr ho hx hy hv h1 hs hF hu k
theorem stm {x y : Operand} {b : Nat} {cs : Array Value} {T' : TypeId} (hw : Region.wanted o (yielded ops a.tmps) = true) (hr : RepD Df n (lk l j) a) (hF : Fit w0 (sepL (pts b (.cells cs T') :: L)) w) (i : Nat) (vs : List Value) (A : HProp)
    (k : ∀ w1, Fit w0 (sepL (A :: L)) w1 → wpList P ops Q rest a w1) (hd : o.dst = none := by rfl) (ho : o.op = .store T x y := by rfl) (hx : evE (lk l j) x = .pointer (some ⟨b, i, none⟩) := by kernel_rfl) (hy : evE (lk l j) y = .agg vs.toArray := by kernel_rfl)
    (h1 : vs.all (·.oneCell') = true := by rfl) (hfit : Nat.ble (i + vs.length) cs.size = true := by rfl) (hs : (P.info? T).map (·.size) = some vs.length := by kernel_rfl) (hA : pts b (.cells (cs.toList.take i ++ vs ++ cs.toList.drop (i + vs.length)).toArray T') = A := by kernel_rfl) : wpList P ops Q (o :: rest) a w := by
  subst hA; exact op_stores hw hd hr ho hx hy h1 hfit hs hF rfl k
end
end Go.Proofs.YtpikpffbcjpmcaaGreatDoor.GX
