/-
  DERIVED. strings.Repeat of the byte 0 beside the page's walks.
-/
import Derived.Test.YtndcaaikjcicgaaDoorPage
import Derived.Test.YtndcaaikjcicgaaDoorZeros
